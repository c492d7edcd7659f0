/- Layer 5: Token, Value; layer 13: tables, right configurations, host, place, match. -/
import Derived.Test.YtjndgkbikhndoaaGreatDoorM1
import Derived.Lib.SlBytesConst
import Derived.Lib.SlTrimSet
import Derived.Deep.DeepCutAuto
import Derived.Test.YtjndgkbikhndoaaGreatDoorSh
import Derived.Test.YtjndgkbikhndoaaGreatDoorProg
import Derived.Test.YtjndgkbikhndoaaGreatDoorK
import Derived.WalkKit
import Derived.Lib.Hide
import Derived.BigQuiet
import Derived.Shelf.Abstract
import Derived.Test.YtjndgkbikhndoaaGreatDoorM4
import Derived.Test.YtjndgkbikhndoaaGreatDoorM3
namespace Go.Proofs.YtjndgkbikhndoaaGreatDoor.E
open Go.RowKit Go.ChangeShapes Go.WideShapes
set_option linter.unusedVariables false

theorem rblank_any (c : Int) (w : World) : Calls Tryz.prog 135 #[.int .u8 c] w fun e w' => e = .returned (.bool (decide (c = 9 ∨ c = 32))) ∧ w = w' := by
  by_cases h1 : c = 9
  · subst h1
    go_enter Tryz.func135, Tryz.ntmps135
    go_wp2
    go_ret
    exact ⟨rfl, rfl⟩
  · by_cases h2 : c = 32
    · subst h2
      go_enter Tryz.func135, Tryz.ntmps135
      go_wp2
      go_ret
      exact ⟨rfl, rfl⟩
    · have k1 : (c == 9) = false := beq_eq_false_iff_ne.2 h1
      have k2 : (c == 32) = false := beq_eq_false_iff_ne.2 h2
      go_enter Tryz.func135, Tryz.ntmps135
      go_wp2
      go_ret
      exact ⟨by simp [h1, h2], rfl⟩

def punct : List Int := [33, 35, 36, 37, 38, 39, 42, 43, 45, 46, 94, 95, 96, 124, 126]
/-- May a byte stand in a token? -/
def tchI (c : Int) : Bool := decide (65 ≤ c ∧ c ≤ 90) || decide (97 ≤ c ∧ c ≤ 122) || decide (48 ≤ c ∧ c ≤ 57) || punct.contains c
theorem tchI_alnum {c : Int} (h : (65 ≤ c ∧ c ≤ 90) ∨ (97 ≤ c ∧ c ≤ 122) ∨ (48 ≤ c ∧ c ≤ 57)) : tchI c = true := by
  unfold tchI
  rcases h with h | h | h <;> simp [h]
theorem tchI_else {c : Int} (h : ¬ ((65 ≤ c ∧ c ≤ 90) ∨ (97 ≤ c ∧ c ≤ 122) ∨ (48 ≤ c ∧ c ≤ 57))) : tchI c = punct.contains c := by
  unfold tchI
  have h1 : ¬ (65 ≤ c ∧ c ≤ 90) := fun k => h (.inl k)
  have h2 : ¬ (97 ≤ c ∧ c ≤ 122) := fun k => h (.inr (.inl k))
  have h3 : ¬ (48 ≤ c ∧ c ≤ 57) := fun k => h (.inr (.inr k))
  rw [decide_eq_false h1, decide_eq_false h2, decide_eq_false h3]
  rfl
def punctV : Array Value := #[.int .u8 33, .int .u8 35, .int .u8 36, .int .u8 37, .int .u8 38, .int .u8 39, .int .u8 42, .int .u8 43, .int .u8 45, .int .u8 46, .int .u8 94, .int .u8 95, .int .u8 96, .int .u8 124, .int .u8 126]
theorem punct_get (k : Nat) (h : k < 15) : punctV[k]? = some (.int .u8 (punct.getD k 0)) := by
  have : ∀ k, k < 15 → punctV[k]? = some (.int .u8 (punct.getD k 0)) := by
    intro k hk
    match k, hk with
    | 0, _ => rfl
    | 1, _ => rfl
    | 2, _ => rfl
    | 3, _ => rfl
    | 4, _ => rfl
    | 5, _ => rfl
    | 6, _ => rfl
    | 7, _ => rfl
    | 8, _ => rfl
    | 9, _ => rfl
    | 10, _ => rfl
    | 11, _ => rfl
    | 12, _ => rfl
    | 13, _ => rfl
    | 14, _ => rfl
    | n + 15, h => omega
  exact this k h
theorem punct_mem (c : Int) (k : Nat) (h : k < 15) (e : punct.getD k 0 = c) : punct.contains c = true := by
  rw [List.contains_iff_mem, ← e, List.getD_eq_getElem?_getD, List.getElem?_eq_getElem (show k < punct.length from h)]
  exact List.getElem_mem _
theorem punct_none (c : Int) (h : ∀ j, j < 15 → punct.getD j 0 ≠ c) : punct.contains c = false := by
  rw [Bool.eq_false_iff]
  intro hc
  rw [List.contains_iff_mem] at hc
  obtain ⟨j, hj, e⟩ := List.getElem_of_mem hc
  refine h j hj ?_
  rw [List.getD_eq_getElem?_getD, List.getElem?_eq_getElem hj]
  exact e
set_option maxHeartbeats 4000000 in
set_option maxRecDepth 100000 in
theorem rtchar_e1 (c : Int) (w : World) (a1 : ¬ (65 : Int) ≤ c) (a2 : ¬ (97 : Int) ≤ c) (a3 : ¬ (48 : Int) ≤ c) :
    Calls Tryz.prog 134 #[.int .u8 c] w fun e w' => e = .returned (.bool (punct.contains c)) ∧ Hid (Chg [] w w') := by
  have hconv := Go.Lib.run_convert_bytes_const (P := Tryz.prog) w 100 5 punctV 15 15 Tryz.underlying100 Tryz.underlying5
  have HP := Lib.hid (show ∀ k, k < 15 → (w.alloc (.cells punctV 5 (punctV.size, punctV.size + 1))).cell? ⟨w.heap.size, k, none⟩ = some (.int .u8 (punct.getD k 0)) from by
    intro k hk
    rw [World.cell?_alloc_mark]
    exact punct_get k hk)
  have HC := Lib.hid ((Chg.refl [] w).alloc (.cells punctV 5 (punctV.size, punctV.size + 1)))
  generalize w.alloc (.cells punctV 5 (punctV.size, punctV.size + 1)) = w1 at *
  unfold punctV at hconv
  go_enter Tryz.func134, Tryz.ntmps134
  go_wp2
  go_loopw [30] (fun i wr => ∃ k : Nat, k ≤ 15 ∧ i = .int .i64 k ∧ Hid (∀ j, j < k → punct.getD j 0 ≠ c) ∧ wr = w1) (fun i _ => 15 - (intOf i).toNat)
  case atStart => exact ⟨0, by omega, rfl, Lib.hid (fun j hj => absurd hj (by omega)), rfl⟩
  case round =>
    obtain ⟨k, hk, rfl, HN, rfl⟩ := hrel
    by_cases hlt : k < 15
    · have hlt2 : (k : Int) < 15 := by omega
      have cell := HP.out k hlt
      by_cases he : punct.getD k 0 = c
      · rw [he] at cell
        have HM := Lib.hid (punct_mem c k hlt he)
        clear he
        go_wp2
        go_ret
        exact ⟨by rw [HM.out]; rfl, HC.out⟩
      · have hne : (c == punct.getD k 0) = false := beq_eq_false_iff_ne.2 (fun e => he e.symm)
        have HNE := Lib.hid he
        clear he
        have HX : Hid (∀ j, j < k + 1 → punct.getD j 0 ≠ c) := Lib.hid (fun j hj => by
          rcases Nat.lt_or_ge j k with h | h
          · exact HN.out j h
          · rw [show j = k by omega]
            exact HNE.out)
        clear HNE HN
        generalize punct.getD k 0 = x at cell hne
        go_wp2
        go_roundw
        case rel => exact ⟨k + 1, by omega, by go_num, HX, by first | rfl | trivial⟩
        case measure => simp [intOf]; omega
    · have e : k = 15 := by omega
      subst e
      have HM := Lib.hid (punct_none c HN.out)
      go_wp2
      go_ret
      exact ⟨by rw [HM.out]; rfl, HC.out⟩
set_option maxHeartbeats 4000000 in
set_option maxRecDepth 100000 in
theorem rtchar_e2 (c : Int) (w : World) (a1 : ¬ (65 : Int) ≤ c) (a2 : ¬ (97 : Int) ≤ c) (a3 : (48 : Int) ≤ c) (a4 : ¬ c ≤ 57) :
    Calls Tryz.prog 134 #[.int .u8 c] w fun e w' => e = .returned (.bool (punct.contains c)) ∧ Hid (Chg [] w w') := by
  have hconv := Go.Lib.run_convert_bytes_const (P := Tryz.prog) w 100 5 punctV 15 15 Tryz.underlying100 Tryz.underlying5
  have HP := Lib.hid (show ∀ k, k < 15 → (w.alloc (.cells punctV 5 (punctV.size, punctV.size + 1))).cell? ⟨w.heap.size, k, none⟩ = some (.int .u8 (punct.getD k 0)) from by
    intro k hk
    rw [World.cell?_alloc_mark]
    exact punct_get k hk)
  have HC := Lib.hid ((Chg.refl [] w).alloc (.cells punctV 5 (punctV.size, punctV.size + 1)))
  generalize w.alloc (.cells punctV 5 (punctV.size, punctV.size + 1)) = w1 at *
  unfold punctV at hconv
  go_enter Tryz.func134, Tryz.ntmps134
  go_wp2
  go_loopw [30] (fun i wr => ∃ k : Nat, k ≤ 15 ∧ i = .int .i64 k ∧ Hid (∀ j, j < k → punct.getD j 0 ≠ c) ∧ wr = w1) (fun i _ => 15 - (intOf i).toNat)
  case atStart => exact ⟨0, by omega, rfl, Lib.hid (fun j hj => absurd hj (by omega)), rfl⟩
  case round =>
    obtain ⟨k, hk, rfl, HN, rfl⟩ := hrel
    by_cases hlt : k < 15
    · have hlt2 : (k : Int) < 15 := by omega
      have cell := HP.out k hlt
      by_cases he : punct.getD k 0 = c
      · rw [he] at cell
        have HM := Lib.hid (punct_mem c k hlt he)
        clear he
        go_wp2
        go_ret
        exact ⟨by rw [HM.out]; rfl, HC.out⟩
      · have hne : (c == punct.getD k 0) = false := beq_eq_false_iff_ne.2 (fun e => he e.symm)
        have HNE := Lib.hid he
        clear he
        have HX : Hid (∀ j, j < k + 1 → punct.getD j 0 ≠ c) := Lib.hid (fun j hj => by
          rcases Nat.lt_or_ge j k with h | h
          · exact HN.out j h
          · rw [show j = k by omega]
            exact HNE.out)
        clear HNE HN
        generalize punct.getD k 0 = x at cell hne
        go_wp2
        go_roundw
        case rel => exact ⟨k + 1, by omega, by go_num, HX, by first | rfl | trivial⟩
        case measure => simp [intOf]; omega
    · have e : k = 15 := by omega
      subst e
      have HM := Lib.hid (punct_none c HN.out)
      go_wp2
      go_ret
      exact ⟨by rw [HM.out]; rfl, HC.out⟩
set_option maxHeartbeats 4000000 in
set_option maxRecDepth 100000 in
theorem rtchar_e3 (c : Int) (w : World) (a1 : (65 : Int) ≤ c) (a2 : ¬ (97 : Int) ≤ c) (a3 : (48 : Int) ≤ c) (a4 : ¬ c ≤ 57) (a5 : ¬ c ≤ 90) :
    Calls Tryz.prog 134 #[.int .u8 c] w fun e w' => e = .returned (.bool (punct.contains c)) ∧ Hid (Chg [] w w') := by
  have hconv := Go.Lib.run_convert_bytes_const (P := Tryz.prog) w 100 5 punctV 15 15 Tryz.underlying100 Tryz.underlying5
  have HP := Lib.hid (show ∀ k, k < 15 → (w.alloc (.cells punctV 5 (punctV.size, punctV.size + 1))).cell? ⟨w.heap.size, k, none⟩ = some (.int .u8 (punct.getD k 0)) from by
    intro k hk
    rw [World.cell?_alloc_mark]
    exact punct_get k hk)
  have HC := Lib.hid ((Chg.refl [] w).alloc (.cells punctV 5 (punctV.size, punctV.size + 1)))
  generalize w.alloc (.cells punctV 5 (punctV.size, punctV.size + 1)) = w1 at *
  unfold punctV at hconv
  go_enter Tryz.func134, Tryz.ntmps134
  go_wp2
  go_loopw [30] (fun i wr => ∃ k : Nat, k ≤ 15 ∧ i = .int .i64 k ∧ Hid (∀ j, j < k → punct.getD j 0 ≠ c) ∧ wr = w1) (fun i _ => 15 - (intOf i).toNat)
  case atStart => exact ⟨0, by omega, rfl, Lib.hid (fun j hj => absurd hj (by omega)), rfl⟩
  case round =>
    obtain ⟨k, hk, rfl, HN, rfl⟩ := hrel
    by_cases hlt : k < 15
    · have hlt2 : (k : Int) < 15 := by omega
      have cell := HP.out k hlt
      by_cases he : punct.getD k 0 = c
      · rw [he] at cell
        have HM := Lib.hid (punct_mem c k hlt he)
        clear he
        go_wp2
        go_ret
        exact ⟨by rw [HM.out]; rfl, HC.out⟩
      · have hne : (c == punct.getD k 0) = false := beq_eq_false_iff_ne.2 (fun e => he e.symm)
        have HNE := Lib.hid he
        clear he
        have HX : Hid (∀ j, j < k + 1 → punct.getD j 0 ≠ c) := Lib.hid (fun j hj => by
          rcases Nat.lt_or_ge j k with h | h
          · exact HN.out j h
          · rw [show j = k by omega]
            exact HNE.out)
        clear HNE HN
        generalize punct.getD k 0 = x at cell hne
        go_wp2
        go_roundw
        case rel => exact ⟨k + 1, by omega, by go_num, HX, by first | rfl | trivial⟩
        case measure => simp [intOf]; omega
    · have e : k = 15 := by omega
      subst e
      have HM := Lib.hid (punct_none c HN.out)
      go_wp2
      go_ret
      exact ⟨by rw [HM.out]; rfl, HC.out⟩
set_option maxHeartbeats 4000000 in
set_option maxRecDepth 100000 in
theorem rtchar_e4 (c : Int) (w : World) (a1 : (65 : Int) ≤ c) (a2 : (97 : Int) ≤ c) (a3 : (48 : Int) ≤ c) (a4 : ¬ c ≤ 57) (a5 : ¬ c ≤ 90) (a6 : ¬ c ≤ 122) :
    Calls Tryz.prog 134 #[.int .u8 c] w fun e w' => e = .returned (.bool (punct.contains c)) ∧ Hid (Chg [] w w') := by
  have hconv := Go.Lib.run_convert_bytes_const (P := Tryz.prog) w 100 5 punctV 15 15 Tryz.underlying100 Tryz.underlying5
  have HP := Lib.hid (show ∀ k, k < 15 → (w.alloc (.cells punctV 5 (punctV.size, punctV.size + 1))).cell? ⟨w.heap.size, k, none⟩ = some (.int .u8 (punct.getD k 0)) from by
    intro k hk
    rw [World.cell?_alloc_mark]
    exact punct_get k hk)
  have HC := Lib.hid ((Chg.refl [] w).alloc (.cells punctV 5 (punctV.size, punctV.size + 1)))
  generalize w.alloc (.cells punctV 5 (punctV.size, punctV.size + 1)) = w1 at *
  unfold punctV at hconv
  go_enter Tryz.func134, Tryz.ntmps134
  go_wp2
  go_loopw [30] (fun i wr => ∃ k : Nat, k ≤ 15 ∧ i = .int .i64 k ∧ Hid (∀ j, j < k → punct.getD j 0 ≠ c) ∧ wr = w1) (fun i _ => 15 - (intOf i).toNat)
  case atStart => exact ⟨0, by omega, rfl, Lib.hid (fun j hj => absurd hj (by omega)), rfl⟩
  case round =>
    obtain ⟨k, hk, rfl, HN, rfl⟩ := hrel
    by_cases hlt : k < 15
    · have hlt2 : (k : Int) < 15 := by omega
      have cell := HP.out k hlt
      by_cases he : punct.getD k 0 = c
      · rw [he] at cell
        have HM := Lib.hid (punct_mem c k hlt he)
        clear he
        go_wp2
        go_ret
        exact ⟨by rw [HM.out]; rfl, HC.out⟩
      · have hne : (c == punct.getD k 0) = false := beq_eq_false_iff_ne.2 (fun e => he e.symm)
        have HNE := Lib.hid he
        clear he
        have HX : Hid (∀ j, j < k + 1 → punct.getD j 0 ≠ c) := Lib.hid (fun j hj => by
          rcases Nat.lt_or_ge j k with h | h
          · exact HN.out j h
          · rw [show j = k by omega]
            exact HNE.out)
        clear HNE HN
        generalize punct.getD k 0 = x at cell hne
        go_wp2
        go_roundw
        case rel => exact ⟨k + 1, by omega, by go_num, HX, by first | rfl | trivial⟩
        case measure => simp [intOf]; omega
    · have e : k = 15 := by omega
      subst e
      have HM := Lib.hid (punct_none c HN.out)
      go_wp2
      go_ret
      exact ⟨by rw [HM.out]; rfl, HC.out⟩
set_option maxHeartbeats 2000000 in
theorem rtchar_any (c : Int) (w : World) : Calls Tryz.prog 134 #[.int .u8 c] w fun e w' => e = .returned (.bool (tchI c)) ∧ Hid (Chg [] w w') := by
  by_cases hy : (65 ≤ c ∧ c ≤ 90) ∨ (97 ≤ c ∧ c ≤ 122) ∨ (48 ≤ c ∧ c ≤ 57)
  · by_cases h1 : 65 ≤ c ∧ c ≤ 90
    · obtain ⟨a1, a2⟩ := h1
      have HY := Lib.hid (tchI_alnum hy)
      clear hy
      go_enter Tryz.func134, Tryz.ntmps134
      go_wp2
      go_ret
      exact ⟨by rw [HY.out]; rfl, Chg.refl _ _⟩
    · by_cases h2 : 97 ≤ c ∧ c ≤ 122
      · obtain ⟨a1, a2⟩ := h2
        have a3 : (65 : Int) ≤ c := by omega
        have a4 : ¬ c ≤ 90 := by omega
        clear h1
        have HY := Lib.hid (tchI_alnum hy)
        clear hy
        go_enter Tryz.func134, Tryz.ntmps134
        go_wp2
        go_ret
        exact ⟨by rw [HY.out]; rfl, Chg.refl _ _⟩
      · have a1 : (48 : Int) ≤ c := by omega
        have a2 : c ≤ 57 := by omega
        have a3 : ¬ (65 : Int) ≤ c := by omega
        have a4 : ¬ (97 : Int) ≤ c := by omega
        clear h1 h2
        have HY := Lib.hid (tchI_alnum hy)
        clear hy
        go_enter Tryz.func134, Tryz.ntmps134
        go_wp2
        go_ret
        exact ⟨by rw [HY.out]; rfl, Chg.refl _ _⟩
  · rw [tchI_else hy]
    by_cases h1 : (48 : Int) ≤ c
    · by_cases h2 : (65 : Int) ≤ c
      · by_cases h3 : (97 : Int) ≤ c
        · exact rtchar_e4 c w h2 h3 h1 (by omega) (by omega) (by omega)
        · exact rtchar_e3 c w h2 h3 h1 (by omega) (by omega)
      · exact rtchar_e2 c w h2 (by omega) h1 (by omega)
    · exact rtchar_e1 c w (by omega) (by omega) h1
end Go.Proofs.YtjndgkbikhndoaaGreatDoor.E

namespace Go.Proofs.YtjndgkbikhndoaaGreatDoor.E
open Go.RowKit Go.ChangeShapes Go.WideShapes
set_option linter.unusedVariables false

/-- Is a text a token? -/
def tokB (s : ByteArray) : Bool := s.data.toList.all (fun c => tchI (c.toNat : Int)) && !s.data.toList.isEmpty
theorem tok_no (s : ByteArray) (k : Nat) (c : UInt8) (hc : s.data.toList[k]? = some c) (h : tchI (c.toNat : Int) = false) : tokB s = false := by
  unfold tokB
  have : s.data.toList.all (fun c => tchI (c.toNat : Int)) = false := by
    rw [List.all_eq_false]
    exact ⟨c, List.mem_of_getElem? hc, by simp [h]⟩
  rw [this]
  rfl
theorem tok_end (s : ByteArray) (h : ∀ (j : Nat) (c : UInt8), s.data.toList[j]? = some c → tchI (c.toNat : Int) = true) : tokB s = !s.data.toList.isEmpty := by
  unfold tokB
  have : s.data.toList.all (fun c => tchI (c.toNat : Int)) = true := by
    rw [List.all_eq_true]
    intro c hc
    obtain ⟨j, hj, e⟩ := List.getElem_of_mem hc
    exact h j c (by rw [List.getElem?_eq_getElem hj, e])
  rw [this]
  rfl
theorem all_step {p : UInt8 → Prop} {l : List UInt8} {k : Nat} {c : UInt8} (h : ∀ (j : Nat) (c : UInt8), j < k → l[j]? = some c → p c) (hc : l[k]? = some c) (hp : p c) : ∀ (j : Nat) (c : UInt8), j < k + 1 → l[j]? = some c → p c := by
  intro j d hj hd
  rcases Nat.lt_or_ge j k with h1 | h1
  · exact h j d h1 hd
  · obtain rfl : j = k := by omega
    rw [hc] at hd
    injection hd with hd
    rw [← hd]
    exact hp
theorem toList_len (s : ByteArray) : s.data.toList.length = s.size := by
  show s.data.toList.length = s.data.size
  rw [Array.length_toList]
theorem tok_end' (s : ByteArray) (h : ∀ (j : Nat) (c : UInt8), s.data.toList[j]? = some c → tchI (c.toNat : Int) = true) : tokB s = decide (0 < s.size) := by
  rw [tok_end s h, ← toList_len]
  cases s.data.toList <;> rfl
theorem toList_get (s : ByteArray) (k : Nat) (h : k < s.size) : s.data.toList[k]? = some (s[k]'h) := by
  rw [List.getElem?_eq_getElem (by rw [toList_len]; exact h)]
  rfl
theorem rtchar8 (c : UInt8) (w : World) : Calls Tryz.prog 134 #[.int .u8 (c.toNat : Int)] w fun e w' => e = .returned (.bool (tchI (c.toNat : Int))) ∧ Hid (Chg [] w w') := rtchar_any _ w
set_option maxHeartbeats 4000000 in
set_option maxRecDepth 100000 in
theorem rtoken_any (s : ByteArray) (w : World) (hs : s.size ≤ 1048576) :
    Calls Tryz.prog 111 #[.string s] w fun e w' => e = .returned (.bool (tokB s)) ∧ Hid (Chg [] w w') := by
  have hz3 : (s.size : Int) ≤ 1048576 := by omega
  go_enter Tryz.func111, Tryz.ntmps111
  go_wp2
  go_loopw [3] (fun i wr => ∃ k : Nat, k ≤ s.size ∧ i = .int .i64 k ∧ Hid (∀ (j : Nat) (c : UInt8), j < k → s.data.toList[j]? = some c → tchI (c.toNat : Int) = true) ∧ Hid (Chg [] w wr)) (fun i _ => s.size - (intOf i).toNat)
  case atStart => exact ⟨0, by omega, rfl, Lib.hid (fun j c hj => absurd hj (by omega)), Chg.refl _ _⟩
  case round =>
    obtain ⟨k, hk, rfl, HA, HC⟩ := hrel
    by_cases hlt : k < s.size
    · skip
      have hlt2 : (k : Int) < (s.size : Int) := by omega
      go_wp2_with fail
      have hcl := toList_get s k hlt
      generalize s[k]'hlt = c at hcl ⊢
      refine (rtchar8 c _).mono ?_
      rintro e w2 ⟨rfl, H2⟩
      cases ht : tchI (c.toNat : Int)
      · have HM := Lib.hid (tok_no s k c hcl ht)
        clear ht hcl
        go_wp2
        go_ret
        exact ⟨by rw [HM.out]; rfl, HC.out.trans H2.out (by simp)⟩
      · have HA2 := Lib.hid (all_step (p := fun c => tchI (c.toNat : Int) = true) HA.out hcl ht)
        have HC2 := Lib.hid (HC.out.trans H2.out (by simp))
        clear ht hcl HA HC H2
        go_wp2
        go_roundw
        case rel => exact ⟨k + 1, by omega, by go_num, HA2, HC2⟩
        case measure => simp [intOf]; omega
    · obtain rfl : k = s.size := by omega
      have HM := Lib.hid (tok_end' s (fun j c hc => HA.out j c (by rw [← toList_len]; exact (List.getElem?_eq_some_iff.1 hc).1) hc))
      go_wp2
      go_ret
      exact ⟨by rw [HM.out]; rfl, HC.out⟩
/-- The letters of a value. -/
def okV (n : Nat) : Bool := decide (n = 9 ∨ (32 ≤ n ∧ n ≠ 127))
def bl2 : List UInt8 := [32, 9]
def valB (s : ByteArray) : Bool := s.data.toList.all (fun c => okV c.toNat) && decide (Lib.trimS s.data.toList bl2 = s.data.toList)
theorem bl2_iff (c : UInt8) : bl2.contains c = decide ((c.toNat : Int) = 9 ∨ (c.toNat : Int) = 32) := by
  by_cases h : c = 32
  · subst h; rfl
  · by_cases h2 : c = 9
    · subst h2; rfl
    · have e1 : ¬ (c.toNat : Int) = 9 := fun e => h2 (UInt8.toNat_inj.1 (by show c.toNat = 9; omega))
      have e2 : ¬ (c.toNat : Int) = 32 := fun e => h (UInt8.toNat_inj.1 (by show c.toNat = 32; omega))
      rw [decide_eq_false (by rintro (e | e); exact e1 e; exact e2 e)]
      unfold bl2
      simp [h, h2]
theorem dropWhile_eq_self {p : UInt8 → Bool} : ∀ (l : List UInt8), l.dropWhile p = l ↔ ∀ c, l[0]? = some c → p c = false
  | [] => by simp
  | a :: l => by
    rw [List.dropWhile_cons]
    constructor
    · intro h c hc
      simp at hc
      subst hc
      cases hp : p a
      · rfl
      · rw [hp] at h
        simp at h
        have h1 := (List.dropWhile_suffix p (l := l)).length_le
        rw [h] at h1
        simp at h1
        omega
    · intro h
      have := h a rfl
      rw [this]
      simp
theorem trimR_self (l cs : List UInt8) : Lib.trimRightS l cs = l ↔ ∀ c, l.reverse[0]? = some c → cs.contains c = false := by
  unfold Lib.trimRightS
  rw [← dropWhile_eq_self, ← List.reverse_inj, List.reverse_reverse]
theorem trim_self (l cs : List UInt8) : Lib.trimS l cs = l ↔ (∀ c, l[0]? = some c → cs.contains c = false) ∧ ∀ c, l.reverse[0]? = some c → cs.contains c = false := by
  rw [← trimR_self]
  unfold Lib.trimS
  constructor
  · intro h
    have h1 : (Lib.trimLeftS (Lib.trimRightS l cs) cs).length ≤ (Lib.trimRightS l cs).length := (List.dropWhile_suffix _).length_le
    have h2 : (Lib.trimRightS l cs).length ≤ l.length := by
      unfold Lib.trimRightS
      rw [List.length_reverse]
      have := (List.dropWhile_suffix (cs.contains ·) (l := l.reverse)).length_le
      rw [List.length_reverse] at this
      exact this
    rw [h] at h1
    have h3 : Lib.trimRightS l cs = l := by
      have e1 : (Lib.trimRightS l cs).length = l.length := by omega
      unfold Lib.trimRightS at e1 ⊢
      have h5 := List.IsSuffix.eq_of_length (List.dropWhile_suffix (cs.contains ·) (l := l.reverse)) (by rw [List.length_reverse] at e1 ⊢; omega)
      rw [h5, List.reverse_reverse]
    refine ⟨?_, h3⟩
    rw [h3] at h
    exact (dropWhile_eq_self l).1 h
  · intro ⟨h1, h2⟩
    rw [h2]
    exact (dropWhile_eq_self l).2 h1
end Go.Proofs.YtjndgkbikhndoaaGreatDoor.E

namespace Go.Proofs.YtjndgkbikhndoaaGreatDoor.E
open Go.RowKit Go.ChangeShapes Go.WideShapes
set_option linter.unusedVariables false

theorem val_no (s : ByteArray) (k : Nat) (c : UInt8) (hc : s.data.toList[k]? = some c) (h : okV c.toNat = false) : valB s = false := by
  unfold valB
  have : s.data.toList.all (fun c => okV c.toNat) = false := by
    rw [List.all_eq_false]
    exact ⟨c, List.mem_of_getElem? hc, by simp [h]⟩
  rw [this]
  rfl
theorem val_end (s : ByteArray) (h : ∀ (j : Nat) (c : UInt8), s.data.toList[j]? = some c → okV c.toNat = true) : valB s = decide (Lib.trimS s.data.toList bl2 = s.data.toList) := by
  unfold valB
  have : s.data.toList.all (fun c => okV c.toNat) = true := by
    rw [List.all_eq_true]
    intro c hc
    obtain ⟨j, hj, e⟩ := List.getElem_of_mem hc
    exact h j c (by rw [List.getElem?_eq_getElem hj, e])
  rw [this]
  rfl
theorem val_end0 (s : ByteArray) (h0 : s.size = 0) : valB s = true := by
  have : s.data.toList = [] := List.eq_nil_of_length_eq_zero (by rw [toList_len]; exact h0)
  unfold valB
  rw [this]
  rfl
theorem dec_and {p : Prop} [Decidable p] {x y : Bool} (h : p ↔ x = false ∧ y = false) : decide p = (!x && !y) := by
  by_cases hp : p
  · obtain ⟨h1, h2⟩ := h.1 hp
    rw [h1, h2, decide_eq_true hp]
    rfl
  · rw [decide_eq_false hp]
    cases x <;> cases y <;> first | rfl | exact absurd (h.2 ⟨rfl, rfl⟩) hp
theorem val_end1 (s : ByteArray) (a b : UInt8) (n : Nat) (hn : s.size = n + 1) (ha : s.data.toList[0]? = some a) (hb : s.data.toList[n]? = some b) : decide (Lib.trimS s.data.toList bl2 = s.data.toList) = (!(decide ((a.toNat : Int) = 9 ∨ (a.toNat : Int) = 32)) && !(decide ((b.toNat : Int) = 9 ∨ (b.toNat : Int) = 32))) := by
  have hl := toList_len s
  have hr : s.data.toList.reverse[0]? = some b := by
    rw [List.getElem?_reverse (by omega), show s.data.toList.length - 1 - 0 = n by omega, hb]
  have h1 := trim_self s.data.toList bl2
  rw [ha, hr] at h1
  rw [← bl2_iff, ← bl2_iff]
  have h2 : Lib.trimS s.data.toList bl2 = s.data.toList ↔ bl2.contains a = false ∧ bl2.contains b = false :=
    h1.trans ⟨fun h => ⟨h.1 a rfl, h.2 b rfl⟩, fun h => ⟨fun c e => by injection e with e; rw [← e]; exact h.1, fun c e => by injection e with e; rw [← e]; exact h.2⟩⟩
  exact dec_and h2
set_option maxHeartbeats 4000000 in
set_option maxRecDepth 100000 in
theorem rvalue_any (s : ByteArray) (w : World) (hs : s.size ≤ 1048576) : Calls Tryz.prog 112 #[.string s] w fun e w' => e = .returned (.bool (valB s)) ∧ w = w' := by
  have hz3 : (s.size : Int) ≤ 1048576 := by omega
  go_enter Tryz.func112, Tryz.ntmps112
  go_wp2
  go_loopw [4] (fun i wr => ∃ k : Nat, k ≤ s.size ∧ i = .int .i64 k ∧ Hid (∀ (j : Nat) (c : UInt8), j < k → s.data.toList[j]? = some c → okV c.toNat = true) ∧ w = wr) (fun i _ => s.size - (intOf i).toNat)
  case atStart => exact ⟨0, by omega, rfl, Lib.hid (fun j c hj => absurd hj (by omega)), by first | rfl | trivial⟩
  case round =>
    obtain ⟨k, hk, rfl, HA, rfl⟩ := hrel
    by_cases hlt : k < s.size
    · have hlt2 : (k : Int) < (s.size : Int) := by omega
      go_upto_region 6 with fail
      have hcl := toList_get s k hlt
      generalize s[k]'hlt = c at hcl ⊢
      have hb : (c.toNat : Int) ≤ 255 := by have := c.toNat_lt; omega
      have hb0 : (0 : Int) ≤ (c.toNat : Int) := by omega
      by_cases h1 : (c.toNat : Int) = 9
      · have k1 : ((c.toNat : Int) == 9) = true := beq_iff_eq.2 h1
        have HA2 := Lib.hid (all_step (p := fun c => okV c.toNat = true) HA.out hcl (by unfold okV; simp; omega))
        clear HA hcl
        generalize (c.toNat : Int) = x at *
        go_wp2
        go_roundw
        case rel => exact ⟨k + 1, by omega, by go_num, HA2, by first | rfl | trivial⟩
        case measure => simp [intOf]; omega
      · have k1 : ((c.toNat : Int) == 9) = false := beq_eq_false_iff_ne.2 h1
        by_cases h2 : (32 : Int) ≤ (c.toNat : Int)
        · by_cases h3 : (c.toNat : Int) ≤ 126
          · skip
            have HA2 := Lib.hid (all_step (p := fun c => okV c.toNat = true) HA.out hcl (by unfold okV; simp; omega))
            clear HA hcl
            generalize (c.toNat : Int) = x at *
            go_wp2
            go_roundw
            case rel => exact ⟨k + 1, by omega, by go_num, HA2, by first | rfl | trivial⟩
            case measure => simp [intOf]; omega
          · by_cases h4 : (128 : Int) ≤ (c.toNat : Int)
            · skip
              have HA2 := Lib.hid (all_step (p := fun c => okV c.toNat = true) HA.out hcl (by unfold okV; simp; omega))
              clear HA hcl
              generalize (c.toNat : Int) = x at *
              go_wp2
              go_roundw
              case rel => exact ⟨k + 1, by omega, by go_num, HA2, by first | rfl | trivial⟩
              case measure => simp [intOf]; omega
            · skip
              have HM := Lib.hid (val_no s k c hcl (by unfold okV; simp; omega))
              clear HA hcl
              generalize (c.toNat : Int) = x at *
              go_wp2
              go_ret
              exact ⟨by rw [HM.out]; rfl, by first | exact Chg.refl _ _ | rfl⟩
        · have h4 : ¬ (128 : Int) ≤ (c.toNat : Int) := by omega
          have HM := Lib.hid (val_no s k c hcl (by unfold okV; simp; omega))
          clear HA hcl
          generalize (c.toNat : Int) = x at *
          go_wp2
          go_ret
          exact ⟨by rw [HM.out]; rfl, by first | exact Chg.refl _ _ | rfl⟩
    · obtain rfl : k = s.size := by omega
      have HM := Lib.hid (val_end s (fun j c hc => HA.out j c (by rw [← toList_len]; exact (List.getElem?_eq_some_iff.1 hc).1) hc))
      by_cases h0 : s.size = 0
      · have HE := Lib.hid (val_end0 s h0)
        have h00 : ((s.size : Int) == 0) = true := by simp [h0]
        clear h0
        go_wp2
        go_ret
        exact ⟨by rw [HE.out]; rfl, by first | exact Chg.refl _ _ | rfl⟩
      · obtain ⟨n, hn⟩ : ∃ n, s.size = n + 1 := ⟨s.size - 1, by omega⟩
        have h00 : ((s.size : Int) == 0) = false := beq_eq_false_iff_ne.2 (by omega)
        have g0 := toList_get s 0 (by omega)
        have gn := toList_get s n (by omega)
        have HE := Lib.hid (val_end1 s _ _ n hn g0 gn)
        have HN := Lib.hid hn
        have hn2 : (s.size : Int) = (n : Int) + 1 := by omega
        go_wp2_with fail
        refine (rblank_any _ _).mono ?_
        rintro e w' ⟨rfl, rfl⟩
        generalize decide (((s[0]'(by omega)).toNat : Int) = 9 ∨ ((s[0]'(by omega)).toNat : Int) = 32) = z0 at HE ⊢
        cases z0
        · go_wp2_with fail
          refine (rblank_any _ _).mono ?_
          rintro e w' ⟨rfl, rfl⟩
          generalize decide (((s[n]'(by omega)).toNat : Int) = 9 ∨ ((s[n]'(by omega)).toNat : Int) = 32) = z1 at HE ⊢
          go_wp2
          go_ret
          exact ⟨by rw [HM.out, HE.out]; cases z1 <;> rfl, by first | exact Chg.refl _ _ | rfl⟩
        · go_wp2
          go_ret
          exact ⟨by rw [HM.out, HE.out]; rfl, by first | exact Chg.refl _ _ | rfl⟩
end Go.Proofs.YtjndgkbikhndoaaGreatDoor.E

namespace Go.Proofs.YtjndgkbikhndoaaGreatDoor.E
open Go.RowKit Go.ChangeShapes Go.WideShapes
set_option linter.unusedVariables false

theorem beq_eq_decide (a b : List UInt8) : (a == b) = decide (a = b) := by
  by_cases h : a = b
  · rw [h, beq_self_eq_true, decide_eq_true rfl]
  · rw [decide_eq_false h, beq_eq_false_iff_ne.2 h]
theorem Chg.ofBelow {w w' : World} (h : Below w.heap.size w w') : Hid (Chg [] w w') := Lib.hid (Chg.of_below h)
def punct8 : List UInt8 := [33, 35, 36, 37, 38, 39, 42, 43, 45, 46, 94, 95, 96, 124, 126]
theorem punct_index : ∀ n, n < 256 → decide (0 ≤ Lib.indexByte punct8 (UInt8.ofNat n)) = punct.contains (n : Int) := by decide +kernel
theorem punct_byte (c : UInt8) : decide (0 ≤ Lib.indexByte punct8 (c.toNat : Int).toNat.toUInt8) = punct.contains (c.toNat : Int) := by
  have h := punct_index c.toNat c.toNat_lt
  rw [UInt8.ofNat_toNat] at h
  rw [← h]
  show decide (0 ≤ Lib.indexByte punct8 (UInt8.ofNat c.toNat)) = _
  rw [UInt8.ofNat_toNat]
set_option maxHeartbeats 2000000 in
theorem tchar_any (c : UInt8) (w : World) : Calls Tryz.prog 114 #[.int .u8 (c.toNat : Int)] w fun e w' => e = .returned (.bool (tchI (c.toNat : Int))) ∧ w = w' := by
  by_cases hy : (65 ≤ (c.toNat : Int) ∧ (c.toNat : Int) ≤ 90) ∨ (97 ≤ (c.toNat : Int) ∧ (c.toNat : Int) ≤ 122) ∨ (48 ≤ (c.toNat : Int) ∧ (c.toNat : Int) ≤ 57)
  · by_cases h1 : 48 ≤ (c.toNat : Int) ∧ (c.toNat : Int) ≤ 57
    · obtain ⟨a1, a2⟩ := h1
      have HY := Lib.hid (tchI_alnum hy)
      clear hy
      generalize (c.toNat : Int) = c at *
      go_enter Tryz.func114, Tryz.ntmps114
      go_wp2_with fail
      go_ret
      exact ⟨by rw [HY.out]; rfl, by first | rfl | trivial⟩
    · by_cases h2 : 97 ≤ (c.toNat : Int) ∧ (c.toNat : Int) ≤ 122
      · obtain ⟨a1, a2⟩ := h2
        have a3 : (48 : Int) ≤ (c.toNat : Int) := by omega
        have a4 : ¬ (c.toNat : Int) ≤ 57 := by omega
        clear h1
        have HY := Lib.hid (tchI_alnum hy)
        clear hy
        generalize (c.toNat : Int) = c at *
        go_enter Tryz.func114, Tryz.ntmps114
        go_wp2_with fail
        go_ret
        exact ⟨by rw [HY.out]; rfl, by first | rfl | trivial⟩
      · have a1 : (65 : Int) ≤ (c.toNat : Int) := by omega
        have a2 : (c.toNat : Int) ≤ 90 := by omega
        have a3 : (48 : Int) ≤ (c.toNat : Int) := by omega
        have a4 : ¬ (c.toNat : Int) ≤ 57 := by omega
        have a5 : ¬ (97 : Int) ≤ (c.toNat : Int) := by omega
        clear h1 h2
        have HY := Lib.hid (tchI_alnum hy)
        clear hy
        generalize (c.toNat : Int) = c at *
        go_enter Tryz.func114, Tryz.ntmps114
        go_wp2_with fail
        go_ret
        exact ⟨by rw [HY.out]; rfl, by first | rfl | trivial⟩
  · by_cases h1 : (48 : Int) ≤ (c.toNat : Int)
    · have b1 : ¬ (c.toNat : Int) ≤ 57 := by omega
      by_cases h2 : (65 : Int) ≤ (c.toNat : Int)
      · have b2 : ¬ (c.toNat : Int) ≤ 90 := by omega
        by_cases h3 : (97 : Int) ≤ (c.toNat : Int)
        · have b3 : ¬ (c.toNat : Int) ≤ 122 := by omega
          have HY := Lib.hid (tchI_else hy)
          have HP := Lib.hid (punct_byte c)
          clear hy
          unfold punct8 at HP
          have hidx := Tryz.strings_IndexByte ⟨#[33, 35, 36, 37, 38, 39, 42, 43, 45, 46, 94, 95, 96, 124, 126]⟩ (c.toNat : Int) w
          generalize (c.toNat : Int) = c at *
          generalize hr : Lib.indexByte _ _ = r at hidx
          have HR : Hid (Lib.indexByte [33, 35, 36, 37, 38, 39, 42, 43, 45, 46, 94, 95, 96, 124, 126] c.toNat.toUInt8 = r) := Lib.hid hr
          rw [HR.out] at HP
          clear hr
          go_enter Tryz.func114, Tryz.ntmps114
          go_wp2_with fail
          refine hidx.mono ?_
          rintro e w' ⟨rfl, rfl⟩
          go_wp2_with fail
          go_ret
          exact ⟨by rw [HY.out, ← HP.out]; rfl, by first | rfl | trivial⟩
        · skip
          have HY := Lib.hid (tchI_else hy)
          have HP := Lib.hid (punct_byte c)
          clear hy
          unfold punct8 at HP
          have hidx := Tryz.strings_IndexByte ⟨#[33, 35, 36, 37, 38, 39, 42, 43, 45, 46, 94, 95, 96, 124, 126]⟩ (c.toNat : Int) w
          generalize (c.toNat : Int) = c at *
          generalize hr : Lib.indexByte _ _ = r at hidx
          have HR : Hid (Lib.indexByte [33, 35, 36, 37, 38, 39, 42, 43, 45, 46, 94, 95, 96, 124, 126] c.toNat.toUInt8 = r) := Lib.hid hr
          rw [HR.out] at HP
          clear hr
          go_enter Tryz.func114, Tryz.ntmps114
          go_wp2_with fail
          refine hidx.mono ?_
          rintro e w' ⟨rfl, rfl⟩
          go_wp2_with fail
          go_ret
          exact ⟨by rw [HY.out, ← HP.out]; rfl, by first | rfl | trivial⟩
      · have h3 : ¬ (97 : Int) ≤ (c.toNat : Int) := by omega
        have HY := Lib.hid (tchI_else hy)
        have HP := Lib.hid (punct_byte c)
        clear hy
        unfold punct8 at HP
        have hidx := Tryz.strings_IndexByte ⟨#[33, 35, 36, 37, 38, 39, 42, 43, 45, 46, 94, 95, 96, 124, 126]⟩ (c.toNat : Int) w
        generalize (c.toNat : Int) = c at *
        generalize hr : Lib.indexByte _ _ = r at hidx
        have HR : Hid (Lib.indexByte [33, 35, 36, 37, 38, 39, 42, 43, 45, 46, 94, 95, 96, 124, 126] c.toNat.toUInt8 = r) := Lib.hid hr
        rw [HR.out] at HP
        clear hr
        go_enter Tryz.func114, Tryz.ntmps114
        go_wp2_with fail
        refine hidx.mono ?_
        rintro e w' ⟨rfl, rfl⟩
        go_wp2_with fail
        go_ret
        exact ⟨by rw [HY.out, ← HP.out]; rfl, by first | rfl | trivial⟩
    · have h2 : ¬ (65 : Int) ≤ (c.toNat : Int) := by omega
      have h3 : ¬ (97 : Int) ≤ (c.toNat : Int) := by omega
      have HY := Lib.hid (tchI_else hy)
      have HP := Lib.hid (punct_byte c)
      clear hy
      unfold punct8 at HP
      have hidx := Tryz.strings_IndexByte ⟨#[33, 35, 36, 37, 38, 39, 42, 43, 45, 46, 94, 95, 96, 124, 126]⟩ (c.toNat : Int) w
      generalize (c.toNat : Int) = c at *
      generalize hr : Lib.indexByte _ _ = r at hidx
      have HR : Hid (Lib.indexByte [33, 35, 36, 37, 38, 39, 42, 43, 45, 46, 94, 95, 96, 124, 126] c.toNat.toUInt8 = r) := Lib.hid hr
      rw [HR.out] at HP
      clear hr
      go_enter Tryz.func114, Tryz.ntmps114
      go_wp2_with fail
      refine hidx.mono ?_
      rintro e w' ⟨rfl, rfl⟩
      go_wp2_with fail
      go_ret
      exact ⟨by rw [HY.out, ← HP.out]; rfl, by first | rfl | trivial⟩
theorem tok_text (s : ByteArray) (h : ∀ (j : Nat) (c : UInt8), s.data.toList[j]? = some c → tchI (c.toNat : Int) = true) (z : Bool) (hz : z = decide (s.data.toList ≠ [])) : tokB s = z := by
  rw [tok_end s h, hz]
  cases s.data.toList <;> rfl
set_option maxHeartbeats 4000000 in
set_option maxRecDepth 100000 in
theorem token_any (s : ByteArray) (w : World) (hs : s.size ≤ 1048576) :
    Calls Tryz.prog 87 #[.string s] w fun e w' => e = .returned (.bool (tokB s)) ∧ Hid (Chg [] w w') := by
  have hz3 : (s.size : Int) ≤ 1048576 := by omega
  go_enter Tryz.func87, Tryz.ntmps87
  go_wp2
  go_loopw [6] (fun i wr => ∃ k : Nat, k ≤ s.size ∧ i = .int .i64 k ∧ Hid (∀ (j : Nat) (c : UInt8), j < k → s.data.toList[j]? = some c → tchI (c.toNat : Int) = true) ∧ Hid (Chg [] w wr)) (fun i _ => s.size - (intOf i).toNat)
  case atStart => exact ⟨0, by omega, rfl, Lib.hid (fun j c hj => absurd hj (by omega)), Chg.refl _ _⟩
  case round =>
    obtain ⟨k, hk, rfl, HA, HC⟩ := hrel
    by_cases hlt : k < s.size
    · skip
      have hlt2 : (k : Int) < (s.size : Int) := by omega
      go_wp2_with fail
      have hcl := toList_get s k hlt
      generalize s[k]'hlt = c at hcl ⊢
      refine (tchar_any c _).mono ?_
      rintro e w2 ⟨rfl, rfl⟩
      cases ht : tchI (c.toNat : Int)
      · have HM := Lib.hid (tok_no s k c hcl ht)
        clear ht hcl
        go_wp2
        go_ret
        exact ⟨by rw [HM.out]; rfl, HC.out⟩
      · have HA2 := Lib.hid (all_step (p := fun c => tchI (c.toNat : Int) = true) HA.out hcl ht)
        have HC2 := HC
        clear ht hcl HA HC
        go_wp2
        go_roundw
        case rel => exact ⟨k + 1, by omega, by go_num, HA2, HC2⟩
        case measure => simp [intOf]; omega
    · obtain rfl : k = s.size := by omega
      have HM := Lib.hid (tok_text s (fun j c hc => HA.out j c (by rw [← toList_len]; exact (List.getElem?_eq_some_iff.1 hc).1) hc))
      go_wp2
      go_ret
      refine ⟨?_, HC.out⟩
      rw [HM.out _ rfl]
      show Ending.returned (.bool !s.toList.isEmpty) = _
      rw [ByteArray.toList_eq]
      cases s.data.toList <;> rfl
theorem trim_any (s : ByteArray) (w : World) (hs : s.size ≤ 1048576) :
    Calls Tryz.prog 115 #[.string s] w fun e w' => e = .returned (.string ⟨(Lib.trimS s.data.toList bl2).toArray⟩) ∧ Hid (Chg [] w w') := by
  have htr := Any.strings_Trim_laid Tryz.lays160 (by kernel_rfl) s ⟨#[32, 9]⟩ w (by omega) (by decide) (ascii_of_all (by decide))
  change Calls Tryz.prog 136 _ _ _ at htr
  go_enter Tryz.func115, Tryz.ntmps115
  go_wp2_with fail
  refine htr.mono ?_
  rintro e w' ⟨rfl, H⟩
  have HC := Chg.ofBelow H
  have hE : Lib.trimS s.data.toList (ByteArray.mk #[32, 9]).data.toList = Lib.trimS s.data.toList bl2 := rfl
  rw [hE]
  clear hE H
  go_wp2_with fail
  go_ret
  exact ⟨rfl, HC.out⟩
set_option maxHeartbeats 4000000 in
set_option maxRecDepth 100000 in
theorem value_any (s : ByteArray) (w : World) (hs : s.size ≤ 1048576) :
    Calls Tryz.prog 88 #[.string s] w fun e w' => e = .returned (.bool (valB s)) ∧ Hid (Chg [] w w') := by
  have hz3 : (s.size : Int) ≤ 1048576 := by omega
  go_enter Tryz.func88, Tryz.ntmps88
  go_wp2
  go_loopw [7] (fun i wr => ∃ k : Nat, k ≤ s.size ∧ i = .int .i64 k ∧ Hid (∀ (j : Nat) (c : UInt8), j < k → s.data.toList[j]? = some c → okV c.toNat = true) ∧ w = wr) (fun i _ => s.size - (intOf i).toNat)
  case atStart => exact ⟨0, by omega, rfl, Lib.hid (fun j c hj => absurd hj (by omega)), by first | rfl | trivial⟩
  case round =>
    obtain ⟨k, hk, rfl, HA, rfl⟩ := hrel
    by_cases hlt : k < s.size
    · have hlt2 : (k : Int) < (s.size : Int) := by omega
      go_upto_region 5 with fail
      have hcl := toList_get s k hlt
      generalize s[k]'hlt = c at hcl ⊢
      have hb : (c.toNat : Int) ≤ 255 := by have := c.toNat_lt; omega
      have hb0 : (0 : Int) ≤ (c.toNat : Int) := by omega
      by_cases h1 : (c.toNat : Int) < 32
      · by_cases h2 : (c.toNat : Int) = 9
        · have k1 : ((c.toNat : Int) == 127) = false := beq_eq_false_iff_ne.2 (by omega)
          have HA2 := Lib.hid (all_step (p := fun c => okV c.toNat = true) HA.out hcl (by unfold okV; simp; omega))
          clear HA hcl
          generalize (c.toNat : Int) = x at *
          go_wp2
          go_roundw
          case rel => exact ⟨k + 1, by omega, by go_num, HA2, by first | rfl | trivial⟩
          case measure => simp [intOf]; omega
        · skip
          have HM := Lib.hid (val_no s k c hcl (by unfold okV; simp; omega))
          clear HA hcl
          generalize (c.toNat : Int) = x at *
          go_wp2
          go_ret
          exact ⟨by rw [HM.out]; rfl, by first | exact Chg.refl _ _ | rfl⟩
      · by_cases h2 : (c.toNat : Int) = 127
        · skip
          have HM := Lib.hid (val_no s k c hcl (by unfold okV; simp; omega))
          clear HA hcl
          generalize (c.toNat : Int) = x at *
          go_wp2
          go_ret
          exact ⟨by rw [HM.out]; rfl, by first | exact Chg.refl _ _ | rfl⟩
        · have k1 : ((c.toNat : Int) == 127) = false := beq_eq_false_iff_ne.2 (by omega)
          have HA2 := Lib.hid (all_step (p := fun c => okV c.toNat = true) HA.out hcl (by unfold okV; simp; omega))
          clear HA hcl
          generalize (c.toNat : Int) = x at *
          go_wp2
          go_roundw
          case rel => exact ⟨k + 1, by omega, by go_num, HA2, by first | rfl | trivial⟩
          case measure => simp [intOf]; omega
    · obtain rfl : k = s.size := by omega
      have HM := Lib.hid (val_end s (fun j c hc => HA.out j c (by rw [← toList_len]; exact (List.getElem?_eq_some_iff.1 hc).1) hc))
      go_wp2_with fail
      refine (trim_any s _ hs).mono ?_
      rintro e w1 ⟨rfl, H1⟩
      go_wp2_with fail
      go_ret
      refine ⟨?_, H1.out⟩
      rw [HM.out]
      show Ending.returned (.bool (Lib.trimS s.data.toList bl2 == s.toList)) = _
      rw [ByteArray.toList_eq, beq_eq_decide]
end Go.Proofs.YtjndgkbikhndoaaGreatDoor.E

namespace Go.Proofs.YtjndgkbikhndoaaGreatDoor
open Go.RowKit Go.ChangeShapes Go.WideShapes
set_option linter.unusedVariables false

/-- A slice whose elements take k cells each. -/
def Tbl (w : World) (v : Value) (k : Nat) (rows : List (List Value)) : Prop :=
  ∃ A cap, v = .slice A rows.length cap ∧ rows.length ≤ cap ∧ (0 < rows.length → ∃ b off, A = some ⟨b, off, none⟩ ∧ b < w.heap.size ∧ ∀ i r, rows[i]? = some r → ∀ j x, r[j]? = some x → w.cell? ⟨b, off + i * k + j, none⟩ = some x)
theorem Tbl.chg {w w' : World} {v : Value} {k : Nat} {rows : List (List Value)} (h : Tbl w v k rows) (hc : Chg [] w w') : Tbl w' v k rows := by
  obtain ⟨A, cap, h1, h2, h3⟩ := h
  refine ⟨A, cap, h1, h2, fun h0 => ?_⟩
  obtain ⟨b, off, e, hb, hx⟩ := h3 h0
  exact ⟨b, off, e, Nat.lt_of_lt_of_le hb hc.size, fun i r hr j x hj => hc.cell (hx i r hr j x hj) (by simp)⟩
def inR (n a b : Int) : Bool := decide (a ≤ n) && decide (n ≤ b)
def allR (l : List (Int × Int × Int)) : Bool := l.all (fun x => inR x.1 x.2.1 x.2.2)
def strRows (ts : List ByteArray) : List (List Value) := ts.map (fun t => [.string t])
def intRows (zs : List Int) : List (List Value) := zs.map (fun z => [.int .i64 z])
def spanRows (l : List (Int × Int × Int)) : List (List Value) := l.map (fun x => [.int .i64 x.1, .int .i64 x.2.1, .int .i64 x.2.2])
theorem Tbl.at3 {w : World} {A : Option Addr} {n cap : Nat} {rows : List (List Value)} (h : Tbl w (.slice A n cap) 3 rows) (h0 : 0 < rows.length) : ∃ b off, A = some ⟨b, off, none⟩ ∧ b < w.heap.size ∧ ∀ i x y z, rows[i]? = some [x, y, z] → w.cell? ⟨b, off + i * 3, none⟩ = some x ∧ w.cell? ⟨b, off + i * 3 + 1, none⟩ = some y ∧ w.cell? ⟨b, off + i * 3 + 2, none⟩ = some z := by
  obtain ⟨A, cap, e, hcap, h3⟩ := h
  injection e with e1 e2 e3
  subst e1
  obtain ⟨b, off, rfl, hb, hx⟩ := h3 h0
  exact ⟨b, off, rfl, hb, fun i x y z hr => ⟨hx i _ hr 0 x rfl, hx i _ hr 1 y rfl, hx i _ hr 2 z rfl⟩⟩
theorem Tbl.at1 {w : World} {A : Option Addr} {n cap : Nat} {rows : List (List Value)} (h : Tbl w (.slice A n cap) 1 rows) (h0 : 0 < rows.length) : ∃ b off, A = some ⟨b, off, none⟩ ∧ b < w.heap.size ∧ ∀ i x, rows[i]? = some [x] → w.cell? ⟨b, off + i, none⟩ = some x := by
  obtain ⟨A, cap, e, hcap, h3⟩ := h
  injection e with e1 e2 e3
  subst e1
  obtain ⟨b, off, rfl, hb, hx⟩ := h3 h0
  exact ⟨b, off, rfl, hb, fun i x hr => by have := hx i _ hr 0 x rfl; rwa [Nat.mul_one] at this⟩
theorem Tbl.cap {w : World} {A : Option Addr} {n cap k : Nat} {rows : List (List Value)} (h : Tbl w (.slice A n cap) k rows) : n ≤ cap := by
  obtain ⟨A, cap, e, hcap, h3⟩ := h
  injection e with e1 e2 e3
  omega
theorem Tbl.form {w : World} {v : Value} {k : Nat} {rows : List (List Value)} (h : Tbl w v k rows) : ∃ A cap, v = .slice A rows.length cap := by
  obtain ⟨A, cap, rfl, -⟩ := h
  exact ⟨A, cap, rfl⟩
theorem span_any (n a b : Int) (w : World) :
    Calls Tryz.prog 60 #[.agg #[.int .i64 n, .int .i64 a, .int .i64 b]] w fun e w' => e = .returned (.bool (!inR n a b)) ∧ Hid (Chg [] w w') := by
  have HC := Lib.hid ((Chg.refl [] w).alloc (.cells #[.int .i64 n, .int .i64 a, .int .i64 b] 66))
  by_cases h1 : n < a
  · have HR := Lib.hid (show inR n a b = false from by unfold inR; rw [decide_eq_false (by omega)]; rfl)
    go_enter Tryz.func60, Tryz.ntmps60
    go_wp2
    go_ret
    exact ⟨by rw [HR.out]; rfl, HC.out⟩
  · have h2 : a ≤ n := by omega
    have HR := Lib.hid (show inR n a b = decide (n ≤ b) from by unfold inR; rw [decide_eq_true h2]; rfl)
    by_cases h3 : b < n
    · have HQ := Lib.hid (show decide (n ≤ b) = false from decide_eq_false (by omega))
      go_enter Tryz.func60, Tryz.ntmps60
      go_wp2
      go_ret
      exact ⟨by rw [HR.out, HQ.out]; rfl, HC.out⟩
    · have HQ := Lib.hid (show decide (n ≤ b) = true from decide_eq_true (by omega))
      go_enter Tryz.func60, Tryz.ntmps60
      go_wp2
      go_ret
      exact ⟨by rw [HR.out, HQ.out]; rfl, HC.out⟩
theorem any_hit {α : Type} {l : List α} {p : α → Bool} {k : Nat} {x : α} (h : l[k]? = some x) (hp : p x = false) : l.all p = false := by
  rw [List.all_eq_false]
  exact ⟨x, List.mem_of_getElem? h, by simp [hp]⟩
theorem all_good {α : Type} {l : List α} {p : α → Bool} (h : ∀ (j : Nat) (x : α), j < l.length → l[j]? = some x → p x = true) : l.all p = true := by
  rw [List.all_eq_true]
  intro x hx
  obtain ⟨j, hj, e⟩ := List.getElem_of_mem hx
  exact h j x hj (by rw [List.getElem?_eq_getElem hj, e])
theorem next_good {α : Type} {l : List α} {p : α → Bool} {k : Nat} {y : α} (h : ∀ (j : Nat) (x : α), j < k → l[j]? = some x → p x = true) (hk : l[k]? = some y) (hp : p y = true) : ∀ (j : Nat) (x : α), j < k + 1 → l[j]? = some x → p x = true := by
  intro j x hj hx
  rcases Nat.lt_or_ge j k with q | q
  · exact h j x q hx
  · obtain rfl : j = k := by omega
    rw [hk] at hx
    injection hx with hx
    rw [← hx]
    exact hp
set_option maxHeartbeats 8000000 in
set_option maxRecDepth 100000 in
theorem rIndex_any (v : Value) (l : List (Int × Int × Int)) (w : World) (ht : Hid (Tbl w v 3 (spanRows l))) (hl : l.length ≤ 1000) :
    Calls Tryz.prog 85 #[v, .func (.func 60) #[] #[]] w fun e w' => (∃ i : Int, e = .returned (.int .i64 i) ∧ decide (0 ≤ i) = !allR l) ∧ Hid (Chg [] w w') := by
  have hlen : (spanRows l).length = l.length := by unfold spanRows; rw [List.length_map]
  obtain ⟨A, cap, rfl⟩ := ht.out.form
  rw [hlen] at ht ⊢
  have hcap := ht.out.cap
  have HLen := Lib.hid hlen
  clear hlen
  have eg : ∀ args w, (callFunc 60 args).run Tryz.prog w = .ok (.enter 60 args) w := enters_of Tryz.func60 (by kernel_rfl) rfl
  go_enter Tryz.func85, Tryz.ntmps85
  go_wp2
  go_loopw [8] (fun i wr => ∃ k : Nat, i = .int .i64 k ∧ k ≤ l.length ∧ Hid (∀ (j : Nat) (x : Int × Int × Int), j < k → l[j]? = some x → inR x.1 x.2.1 x.2.2 = true) ∧ Hid (Chg [] w wr)) (fun i _ => l.length - (intOf i).toNat)
  case atStart => exact ⟨0, rfl, by omega, Lib.hid (fun j g hj => by omega), Chg.refl _ _⟩
  case round =>
    obtain ⟨k, rfl, hk, HN, HC⟩ := hrel
    by_cases hlt : k < l.length
    · obtain ⟨b, o, rfl, hbs, hx⟩ := ht.out.at3 (by rw [HLen.out]; omega)
      obtain ⟨x, hxk⟩ : ∃ x, l[k]? = some x := ⟨_, List.getElem?_eq_getElem hlt⟩
      obtain ⟨c1, c2, c3⟩ := hx k _ _ _ (by unfold spanRows; rw [List.getElem?_map, hxk]; rfl)
      have c1 := HC.out.cell c1 (by simp)
      have c2 := HC.out.cell c2 (by simp)
      have c3 := HC.out.cell c3 (by simp)
      have HX := Lib.hid hxk
      clear hx hxk
      obtain ⟨n, a, b2⟩ := x
      dsimp only at c1 c2 c3
      have hcall := span_any n a b2 wr
      cases hin : inR n a b2
      · rw [hin] at hcall
        have HE := Lib.hid (show allR l = false from any_hit HX.out hin)
        clear hin
        go_wp2_with (go_at_fn 60; refine hcall.mono ?_; rintro e w2 ⟨rfl, H2⟩)
        go_ret
        exact ⟨⟨(k : Int), rfl, by rw [HE.out]; exact decide_eq_true (by omega)⟩, HC.out.trans H2.out (by simp)⟩
      · rw [hin] at hcall
        have HN2 := Lib.hid (next_good (p := fun x : Int × Int × Int => inR x.1 x.2.1 x.2.2) HN.out HX.out hin)
        clear hin
        go_wp2_with (go_at_fn 60; refine hcall.mono ?_; rintro e w2 ⟨rfl, H2⟩)
        go_roundw
        case rel => exact ⟨k + 1, by go_num, by omega, HN2, HC.out.trans H2.out (by simp)⟩
        case measure => simp [intOf]; omega
    · obtain rfl : k = l.length := by omega
      have HE := Lib.hid (show allR l = true from all_good HN.out)
      go_wp2
      go_ret
      exact ⟨⟨-1, rfl, by rw [HE.out]; rfl⟩, HC.out⟩
theorem within_any (v : Value) (l : List (Int × Int × Int)) (w : World) (ht : Hid (Tbl w v 3 (spanRows l))) (hl : l.length ≤ 1000) :
    Calls Tryz.prog 34 #[v] w fun e w' => e = .returned (.bool (allR l)) ∧ Hid (Chg [] w w') := by
  have HI := Lib.hid (rIndex_any v l w ht hl)
  have HCF : Hid (Calls Tryz.prog 59 #[v, .func (.func 60) #[] #[]] w fun e w' => e = .returned (.bool (!allR l)) ∧ Hid (Chg [] w w')) := by
    refine Lib.hid ?_
    go_enter Tryz.func59, Tryz.ntmps59
    go_wp2_with fail
    refine HI.out.mono ?_
    rintro e w2 ⟨⟨i, rfl, hi⟩, H2⟩
    have HJ := Lib.hid hi
    clear hi
    go_wp2
    go_ret
    exact ⟨by rw [← HJ.out]; rfl, H2.out⟩
  go_enter Tryz.func34, Tryz.ntmps34
  go_wp2_with fail
  refine HCF.out.mono ?_
  rintro e w2 ⟨rfl, H2⟩
  go_wp2
  go_ret
  exact ⟨by first | rfl | (rw [Bool.not_not]; rfl), H2.out⟩
end Go.Proofs.YtjndgkbikhndoaaGreatDoor

namespace Go.Proofs.YtjndgkbikhndoaaGreatDoor
open Go.RowKit Go.ChangeShapes Go.WideShapes
set_option linter.unusedVariables false

structure Mt where
  host : ByteArray
  pre : ByteArray
  methods : List ByteArray
  header : ByteArray
  value : ByteArray
structure Rt where
  m : Mt
  hosts : List Int
  rate : Int
  per : Int
  burst : Int
  opn : Int
  fails : Int
  cool : Int
  probes : Int
  percent : Int
  min : Int
  window : Int
  retries : Int
  hedges : Int
  hedgeAfter : Int
  perTry : Int
  total : Int
structure Ht where
  name : ByteArray
  cap : Int
  pend : Int
structure Cf where
  hosts : List Ht
  routes : List Rt
  every : Int
  timeout : Int
  up : Int
  down : Int
  path : ByteArray
  fails : Int
  base : Int
  longest : Int
  share : Int
  maxHead : Int
  maxBody : Int
  maxOut : Int
  headTime : Int
  idle : Int
  life : Int
  clients : Int
abbrev M6 : Int := 1000000
def hostOK (s : ByteArray) : Bool := decide (hostF s = (s, -1, 0))
def GETb : ByteArray := ⟨#[71, 69, 84]⟩
/-- A path, without a query, and without dots. -/
def placeOK (s : ByteArray) : Bool :=
  decide (s.size ≤ 8192) && Lib.hasPrefix s.data.toList [47] && locL (cutP s).data.toList (cutQ s).data.toList && !cutA s && decide (cleanF s = (s, 0))
def wildB (s : ByteArray) : ByteArray := ⟨(Lib.trimPrefix s.data.toList [42, 46]).toArray⟩
def wildOK (s : ByteArray) : Bool := Lib.hasPrefix s.data.toList [42, 46] && hostOK (wildB s)
def matchOK (m : Mt) : Bool :=
  (decide (m.host.size = 0) || hostOK m.host || wildOK m.host) && placeOK m.pre && decide (m.methods.length ≤ 8) && m.methods.all E.tokB
  && (if m.header.size = 0 then decide (m.value.size = 0) else E.tokB m.header && E.valB m.value)
def Rt.nums (r : Rt) : List (Int × Int × Int) :=
  [(r.rate, 0, M6), (r.per, 1, M6), (r.burst, 0, M6), (r.opn, 1, 1000), (r.fails, 0, 1000), (r.cool, 1, M6), (r.probes, 1, 100), (r.percent, 0, 100), (r.min, 0, 1000), (r.window, 1, M6), (r.retries, 0, 5), (r.hedges, 0, 3), (r.hedgeAfter, 1, M6), (r.perTry, 1, M6), (r.total, 1, M6)]
def routeOK (r : Rt) (n : Int) : Bool :=
  matchOK r.m && (decide (1 ≤ r.hosts.length) && decide (r.hosts.length ≤ 16)) && r.hosts.all (fun h => decide (0 ≤ h) && decide (h < n)) && decide r.hosts.Nodup && allR r.nums
def htOK (h : Ht) : Bool := hostOK h.name && allR [(h.cap, 1, 64), (h.pend, 0, 64)]
def Cf.nums (c : Cf) : List (Int × Int × Int) :=
  [(c.every, 0, M6), (c.timeout, 1, M6), (c.up, 1, 100), (c.down, 1, 100), (c.fails, 0, 1000), (c.base, 1, M6), (c.longest, max 1 c.base, M6), (c.share, 0, 100), (c.maxHead, 16, 65536), (c.maxBody, 0, 1048576), (c.maxOut, 1, 1048576), (c.headTime, 1, M6), (c.idle, 1, M6), (c.life, 1, M6), (c.clients, 1, 256)]
def pathOK (c : Cf) : Bool := (placeOK c.path && decide (c.path.size ≤ 8179)) || (decide (c.path.size = 0) && decide (c.every = 0))
def rightB (c : Cf) : Bool :=
  (decide (1 ≤ c.hosts.length) && decide (c.hosts.length ≤ 16)) && (decide (1 ≤ c.routes.length) && decide (c.routes.length ≤ 16))
  && c.hosts.all htOK && decide (c.hosts.map (·.name)).Nodup && c.routes.all (fun r => routeOK r c.hosts.length) && pathOK c && allR c.nums
def capsN (c : Cf) : Int := (c.hosts.map (·.cap)).sum
def connsN (c : Cf) : Int := c.clients + capsN c + c.hosts.length
def mostN (c : Cf) : Int := c.routes.foldl (fun m r => max m (r.retries + r.hedges + 1)) 0
def timersN (c : Cf) : Int := 4 * c.clients + 3 * capsN c + 3 * c.hosts.length + mostN c * c.clients
def bufN (c : Cf) : Int := c.clients * (2 * c.maxHead + c.maxBody + c.maxOut + 8192) + capsN c * (c.maxHead + c.maxBody + 8192)
/-- What lies in memory. -/
def htRow (h : Ht) : List Value := [.string h.name, .int .i64 h.cap, .int .i64 h.pend]
def rtRow (r : Rt) (mv hv : Value) : List Value :=
  [.string r.m.host, .string r.m.pre, mv, .string r.m.header, .string r.m.value, hv, .int .i64 r.rate, .int .i64 r.per, .int .i64 r.burst, .int .i64 r.opn, .int .i64 r.fails, .int .i64 r.cool, .int .i64 r.probes, .int .i64 r.percent, .int .i64 r.min, .int .i64 r.window, .int .i64 r.retries, .int .i64 r.hedges, .int .i64 r.hedgeAfter, .int .i64 r.perTry, .int .i64 r.total]
/-- A route's slices. -/
structure RtAt (w : World) (r : Rt) (mv hv : Value) : Prop where
  ms : Tbl w mv 1 (strRows r.m.methods)
  hs : Tbl w hv 1 (intRows r.hosts)
theorem RtAt.chg {w w' : World} {r : Rt} {mv hv : Value} (h : RtAt w r mv hv) (hc : Chg [] w w') : RtAt w' r mv hv := ⟨h.ms.chg hc, h.hs.chg hc⟩
/-- The routes: for each one where its slices lie. -/
structure RtsAt (w : World) (v : Value) (rs : List Rt) (ps : List (Value × Value)) : Prop where
  len : ps.length = rs.length
  tb : Tbl w v 21 ((rs.zip ps).map (fun x => rtRow x.1 x.2.1 x.2.2))
  each : ∀ (i : Nat) (r : Rt) (p : Value × Value), rs[i]? = some r → ps[i]? = some p → RtAt w r p.1 p.2
theorem RtsAt.chg {w w' : World} {v : Value} {rs : List Rt} {ps : List (Value × Value)} (h : RtsAt w v rs ps) (hc : Chg [] w w') : RtsAt w' v rs ps :=
  ⟨h.len, h.tb.chg hc, fun i r p hr hp => (h.each i r p hr hp).chg hc⟩
def cfRow (c : Cf) (hv rv : Value) : List Value :=
  [hv, rv, .int .i64 c.every, .int .i64 c.timeout, .int .i64 c.up, .int .i64 c.down, .string c.path, .int .i64 c.fails, .int .i64 c.base, .int .i64 c.longest, .int .i64 c.share, .int .i64 c.maxHead, .int .i64 c.maxBody, .int .i64 c.maxOut, .int .i64 c.headTime, .int .i64 c.idle, .int .i64 c.life, .int .i64 c.clients]
/-- A configuration's slices, and that no text in it is too long. -/
structure CfAt (w : World) (c : Cf) (hv rv : Value) (ps : List (Value × Value)) : Prop where
  hs : Tbl w hv 3 (c.hosts.map htRow)
  rs : RtsAt w rv c.routes ps
theorem CfAt.chg {w w' : World} {c : Cf} {hv rv : Value} {ps : List (Value × Value)} (h : CfAt w c hv rv ps) (hc : Chg [] w w') : CfAt w' c hv rv ps := ⟨h.hs.chg hc, h.rs.chg hc⟩
/-- Sizes. -/
structure MtSz (m : Mt) : Prop where
  host : m.host.size ≤ 1048576
  pre : m.pre.size ≤ 1048576
  ms : ∀ t, t ∈ m.methods → t.size ≤ 1048576
  mn : m.methods.length ≤ 1048576
  header : m.header.size ≤ 1048576
  value : m.value.size ≤ 1048576
structure RtSz (r : Rt) : Prop where
  m : MtSz r.m
  hn : r.hosts.length ≤ 1048576
structure CfSz (c : Cf) : Prop where
  hs : ∀ h, h ∈ c.hosts → h.name.size ≤ 1048576
  rs : ∀ r, r ∈ c.routes → RtSz r
  hn : c.hosts.length ≤ 1048576
  rn : c.routes.length ≤ 1048576
  path : c.path.size ≤ 1048576
end Go.Proofs.YtjndgkbikhndoaaGreatDoor

namespace Go.Proofs.YtjndgkbikhndoaaGreatDoor
open Go.RowKit Go.ChangeShapes Go.WideShapes
set_option linter.unusedVariables false

theorem place_eq (s : ByteArray) (v : Int) {f p e : Int} {h pa q : ByteArray} {a : Bool} (hp : parseF GETb s v = (tgt f h p pa q a, e)) :
    (decide (e = 0) && decide (f = 1) && !a) = (decide (s.size ≤ 8192) && Lib.hasPrefix s.data.toList [47] && locL (cutP s).data.toList (cutQ s).data.toList && !cutA s) := by
  have tz : ∀ {f p : Int} {h pa q : ByteArray} {a : Bool}, zeroT = tgt f h p pa q a → f = 0 := fun e => (tgt_inj.1 e).1.symm
  unfold parseF at hp
  by_cases h8 : 8192 < s.size
  · rw [if_pos h8] at hp
    obtain ⟨h1, h2⟩ := Prod.mk.inj hp
    rw [← h2, decide_eq_false (show ¬ s.size ≤ 8192 by omega)]
    rfl
  · rw [if_neg h8, if_neg (by decide +kernel)] at hp
    rw [decide_eq_true (show s.size ≤ 8192 by omega), Bool.true_and]
    by_cases h42 : (s.toList == [42]) = true
    · rw [if_pos h42, if_neg (by decide +kernel)] at hp
      obtain ⟨h1, h2⟩ := Prod.mk.inj hp
      have hn : Lib.hasPrefix s.data.toList [47] = false := by
        rw [beq_iff_eq, Lib.toList_data] at h42
        rw [h42]
        rfl
      rw [← h2, hn]
      rfl
    · rw [if_neg h42] at hp
      by_cases h47 : Lib.hasPrefix s.data.toList [47] = true
      · rw [if_pos h47] at hp
        rw [h47, Bool.true_and]
        unfold slashF at hp
        split at hp
        · rename_i hl
          rw [hl, Bool.true_and]
          obtain ⟨h1, h2⟩ := Prod.mk.inj hp
          obtain ⟨q1, q2, q3, q4, q5, q6⟩ := tgt_inj.1 h1
          rw [← h2, ← q1, ← q6]
          rfl
        · rename_i hl
          obtain ⟨h1, h2⟩ := Prod.mk.inj hp
          rw [← h2, Bool.eq_false_iff.2 hl]
          rfl
      · rw [if_neg h47] at hp
        rw [Bool.eq_false_iff.2 h47, Bool.false_and, Bool.false_and]
        split at hp
        · unfold httpF httpG at hp
          split at hp
          · rename_i hne
            obtain ⟨h1, h2⟩ := Prod.mk.inj hp
            rw [← h2, decide_eq_false hne]
            rfl
          · split at hp
            · obtain ⟨h1, h2⟩ := Prod.mk.inj hp
              obtain ⟨q1, -⟩ := tgt_inj.1 h1
              rw [← q1]
              simp
            · obtain ⟨h1, h2⟩ := Prod.mk.inj hp
              rw [← h2]
              rfl
        · obtain ⟨h1, h2⟩ := Prod.mk.inj hp
          rw [← h2]
          rfl
theorem nodup_rev {α : Type} {l : List α} : l.reverse.Nodup ↔ l.Nodup := by
  unfold List.Nodup
  rw [List.pairwise_reverse]
  constructor <;> (intro h; exact h.imp (fun h e => h e.symm))
/-- Hosts and routes turned about. -/
def Cf.turned (c : Cf) : Cf := { c with hosts := c.hosts.reverse, routes := c.routes.reverse }
theorem right_turned (c : Cf) : rightB c.turned = rightB c := by
  unfold rightB Cf.turned pathOK Cf.nums
  simp only [List.length_reverse, List.all_reverse, List.map_reverse]
  rw [show decide ((c.hosts.map (fun x => x.name)).reverse.Nodup) = decide (c.hosts.map (fun x => x.name)).Nodup from decide_eq_decide.2 nodup_rev]
theorem buf_turned (c : Cf) : bufN c.turned = bufN c := by
  unfold bufN Cf.turned capsN
  simp only [List.map_reverse, List.sum_reverse]
end Go.Proofs.YtjndgkbikhndoaaGreatDoor

namespace Go.Proofs.YtjndgkbikhndoaaGreatDoor
open Go.RowKit Go.ChangeShapes Go.WideShapes
set_option linter.unusedVariables false

theorem eqb_true (s : ByteArray) : (s.toList == s.toList) = true := beq_self_eq_true _
theorem eqb_false {s t : ByteArray} (h : s ≠ t) : (s.toList == t.toList) = false := by
  rw [beq_eq_false_iff_ne, Lib.toList_data, Lib.toList_data]
  intro e
  exact h (by rw [ofList s _ e, ← ofList t _ rfl])
set_option maxHeartbeats 4000000 in
set_option maxRecDepth 100000 in
theorem chost_any (s : ByteArray) (w : World) (hs : s.size ≤ 1048576) (hE : Hid (Env w)) (z : Bool) (hz : hostOK s = z) :
    Calls Tryz.prog 33 #[.string s] w fun e w' => e = .returned (.bool z) ∧ Hid (Chg [] w w') := by
  obtain ⟨h, p, e, hh⟩ : ∃ h p e, hostF s = (h, p, e) := ⟨_, _, _, rfl⟩
  have HH := Lib.hid hh
  have hz2 : z = decide ((h, p, e) = (s, -1, 0)) := by rw [← hz, ← hh]; rfl
  clear hz hh
  go_enter Tryz.func33, Tryz.ntmps33
  go_wp2_with fail
  refine (Host_any s _ hs hE h p e HH.out).mono ?_
  rintro o w2 ⟨rfl, HC⟩
  by_cases k1 : e = 0
  · subst k1
    by_cases k2 : p = -1
    · subst k2
      by_cases k3 : h = s
      · subst k3
        have HZ := Lib.hid (show z = true from by rw [hz2]; exact decide_eq_true rfl)
        have k4 := eqb_true h
        clear hz2
        go_wp2
        go_ret
        exact ⟨by rw [HZ.out]; rfl, HC.out⟩
      · have HZ := Lib.hid (show z = false from by rw [hz2]; exact decide_eq_false (fun q => k3 (Prod.mk.inj q).1))
        have k4 := eqb_false k3
        clear hz2 k3
        go_wp2
        go_ret
        exact ⟨by rw [HZ.out]; rfl, HC.out⟩
    · have HZ := Lib.hid (show z = false from by rw [hz2]; exact decide_eq_false (fun q => k2 (Prod.mk.inj (Prod.mk.inj q).2).1))
      have k4 : (p == -1) = false := beq_eq_false_iff_ne.2 k2
      clear hz2 k2
      go_wp2
      go_ret
      exact ⟨by rw [HZ.out]; rfl, HC.out⟩
  · have HZ := Lib.hid (show z = false from by rw [hz2]; exact decide_eq_false (fun q => k1 (Prod.mk.inj (Prod.mk.inj q).2).2))
    have k4 : (e == 0) = false := beq_eq_false_iff_ne.2 k1
    clear hz2 k1
    go_wp2
    go_ret
    exact ⟨by rw [HZ.out]; rfl, HC.out⟩
theorem place_val {s : ByteArray} {v f p e g : Int} {h pa q c : ByteArray} {a : Bool} (hp : parseF GETb s v = (tgt f h p pa q a, e)) (hc : cleanF s = (c, g)) :
    placeOK s = (decide (e = 0) && decide (f = 1) && !a && (decide (c = s) && decide (g = 0))) := by
  rw [place_eq s v hp]
  unfold placeOK
  rw [hc]
  congr 1
  rw [Bool.eq_iff_iff]
  simp only [decide_eq_true_eq, Bool.and_eq_true, Prod.mk.injEq]
set_option maxHeartbeats 4000000 in
set_option maxRecDepth 100000 in
theorem cplace_any (s : ByteArray) (w : World) (hE : Hid (Env w)) (z : Bool) (hz : placeOK s = z) :
    Calls Tryz.prog 37 #[.string s] w fun e w' => e = .returned (.bool z) ∧ Hid (Chg [] w w') := by
  obtain ⟨c, g, hc⟩ : ∃ c g, cleanF s = (c, g) := ⟨_, _, rfl⟩
  have HCL := Lib.hid hc
  clear hc
  go_enter Tryz.func37, Tryz.ntmps37
  go_wp2_with fail
  refine (parse_any GETb s _ hE).mono ?_
  rintro o W2 ⟨⟨v, hv, rfl⟩, H2⟩
  obtain ⟨f, h, p, pa, q, a, hform⟩ := parseF_form GETb s v
  obtain ⟨e, he⟩ : ∃ e, (parseF GETb s v).2 = e := ⟨_, rfl⟩
  have hz2 := hz.symm.trans (place_val (v := v) (e := e) (Prod.ext hform he) HCL.out)
  rw [hform, he]
  have HB := Lib.hid (Blk.new W2 (tgt f h p pa q a) 76)
  have HC2 := Lib.hid (H2.out.alloc (.cells (tgt f h p pa q a).toArray 76))
  clear hz hform he hv
  unfold tgt at HB HC2 ⊢
  go_wp2_with fail
  generalize W2.alloc _ = W3 at HB HC2 ⊢
  generalize W2.heap.size = b at HB ⊢
  refine (clean_any s _ (Lib.hid (hE.out.chg HC2.out)) c g HCL.out).mono ?_
  rintro o W4 ⟨rfl, H4⟩
  have HB4 := HB.out.chg H4.out (by simp)
  have HC := Lib.hid (HC2.out.trans H4.out (by simp))
  have c0 := HB4.cell 0 _ rfl
  have c5 := HB4.cell 5 _ rfl
  clear HB4
  by_cases k1 : e = 0
  · subst k1
    rw [decide_eq_true rfl, Bool.true_and] at hz2
    by_cases k2 : g = 0
    · subst k2
      rw [decide_eq_true (show (0 : Int) = 0 from rfl), Bool.and_true] at hz2
      by_cases k3 : f = 1
      · subst k3
        rw [decide_eq_true (show (1 : Int) = 1 from rfl), Bool.true_and] at hz2
        cases a
        · rw [Bool.not_false, Bool.true_and] at hz2
          by_cases k5 : c = s
          · have HZ := Lib.hid (show z = true from by rw [hz2]; exact decide_eq_true k5)
            have k6 : (c.toList == s.toList) = true := by rw [k5]; exact eqb_true s
            clear hz2 k5
            go_wp2
            go_ret
            exact ⟨by rw [HZ.out]; rfl, HC.out⟩
          · have HZ := Lib.hid (show z = false from by rw [hz2]; exact decide_eq_false k5)
            have k6 := eqb_false k5
            clear hz2 k5
            go_wp2
            go_ret
            exact ⟨by rw [HZ.out]; rfl, HC.out⟩
        · have HZ := Lib.hid (show z = false from by rw [hz2]; rfl)
          clear hz2
          go_wp2
          go_ret
          exact ⟨by rw [HZ.out]; rfl, HC.out⟩
      · have HZ := Lib.hid (show z = false from by rw [hz2, decide_eq_false k3]; rfl)
        have k4 : (f == 1) = false := beq_eq_false_iff_ne.2 k3
        clear hz2 k3
        go_wp2
        go_ret
        exact ⟨by rw [HZ.out]; rfl, HC.out⟩
    · have HZ := Lib.hid (show z = false from by rw [hz2, decide_eq_false k2, Bool.and_false, Bool.and_false])
      have k4 : (g == 0) = false := beq_eq_false_iff_ne.2 k2
      clear hz2 k2
      go_wp2
      go_ret
      exact ⟨by rw [HZ.out]; rfl, HC.out⟩
  · have HZ := Lib.hid (show z = false from by rw [hz2, decide_eq_false k1]; rfl)
    have k4 : (e == 0) = false := beq_eq_false_iff_ne.2 k1
    clear hz2 k1
    go_wp2
    go_ret
    exact ⟨by rw [HZ.out]; rfl, HC.out⟩
end Go.Proofs.YtjndgkbikhndoaaGreatDoor

namespace Go.Proofs.YtjndgkbikhndoaaGreatDoor
open Go.RowKit Go.ChangeShapes Go.WideShapes
set_option linter.unusedVariables false

theorem nodup_next {α : Type} {l : List α} {k : Nat} {x : α} (h : (l.take k).Nodup) (hx : l[k]? = some x) (hn : x ∉ l.take k) : (l.take (k + 1)).Nodup := by
  rw [List.take_add_one, hx, List.nodup_append]
  exact ⟨h, by simp, fun a ha b hb e => hn (by simp at hb; rw [← hb, ← e]; exact ha)⟩
theorem nodup_hit {α : Type} {l : List α} {k : Nat} {x : α} (hx : l[k]? = some x) (hn : x ∈ l.take k) : ¬ l.Nodup := by
  intro h
  have h2 : (l.take (k + 1)).Nodup := h.sublist (List.take_sublist _ _)
  rw [List.take_add_one, hx, List.nodup_append] at h2
  exact h2.2.2 x hn x (by simp) rfl
set_option maxRecDepth 100000 in
theorem cut40 (b o n cap k : Nat) (hk : k ≤ cap) (W : World) : (Instr.slice 40 (.slice (some ⟨b, o, none⟩) n cap) none (some (.int .i64 (k : Int))) none).run Tryz.prog W = .ok (.slice (some ⟨b, o, none⟩) k cap) W := by
  rw [run_slice_h (P := Tryz.prog) W 40 _ n cap Tryz.underlying40 .i64 (k : Int) (by omega) (by omega), Int.toNat_natCast]
  go_simp
set_option maxRecDepth 100000 in
theorem cut22 (b o n cap k : Nat) (hk : k ≤ cap) (W : World) : (Instr.slice 22 (.slice (some ⟨b, o, none⟩) n cap) none (some (.int .i64 (k : Int))) none).run Tryz.prog W = .ok (.slice (some ⟨b, o, none⟩) k cap) W := by
  rw [run_slice_h (P := Tryz.prog) W 22 _ n cap Tryz.underlying22 .i64 (k : Int) (by omega) (by omega), Int.toNat_natCast]
  go_simp
theorem getD_int {zs : List Int} {j : Nat} (hj : j < zs.length) : zs.getD j 0 = zs[j] := by rw [List.getD_eq_getElem?_getD, List.getElem?_eq_getElem hj]; rfl
theorem getD_str {zs : List ByteArray} {j : Nat} (hj : j < zs.length) : zs.getD j ByteArray.empty = zs[j] := by rw [List.getD_eq_getElem?_getD, List.getElem?_eq_getElem hj]; rfl
theorem has_int (zs : List Int) (x : Int) : zs.contains x = true ↔ x ∈ zs := List.contains_iff_mem
set_option maxHeartbeats 8000000 in
set_option maxRecDepth 100000 in
theorem twiceI_any (v : Value) (zs : List Int) (w : World) (ht : Hid (Tbl w v 1 (intRows zs))) (hl : zs.length ≤ 1048576) :
    Calls Tryz.prog 64 #[v] w fun e w' => e = .returned (.bool (!decide zs.Nodup)) ∧ w' = w := by
  have hlen : (intRows zs).length = zs.length := by unfold intRows; rw [List.length_map]
  obtain ⟨A, cap, rfl⟩ := ht.out.form
  rw [hlen] at ht ⊢
  have hcap := ht.out.cap
  have HLen := Lib.hid hlen
  clear hlen
  go_enter Tryz.func64, Tryz.ntmps64
  go_wp2
  go_loopw [7] (fun i wr => ∃ k : Nat, i = .int .i64 k ∧ k ≤ zs.length ∧ Hid ((zs.take k).Nodup) ∧ wr = w) (fun i _ => zs.length - (intOf i).toNat)
  case atStart => exact ⟨0, rfl, by omega, Lib.hid (by simp), rfl⟩
  case round =>
    obtain ⟨k, rfl, hk, HN, rfl⟩ := hrel
    by_cases hlt : k < zs.length
    · obtain ⟨b, o, rfl, hbs, hx⟩ := ht.out.at1 (by rw [HLen.out]; omega)
      obtain ⟨x, hxk⟩ : ∃ x, zs[k]? = some x := ⟨_, List.getElem?_eq_getElem hlt⟩
      have c1 := hx k _ (by unfold intRows; rw [List.getElem?_map, hxk]; rfl)
      have hsl := cut40 b o zs.length cap k (by omega)
      have HC := Lib.hid (Tryz.slices_Contains_int b o k cap zs x wr (by omega) (by omega) (fun j hj => hx j _ (by unfold intRows; rw [List.getElem?_map, List.getElem?_eq_getElem hj, (getD_int hj)]; rfl)))
      have HX := Lib.hid hxk
      clear hx hxk
      by_cases hin : x ∈ zs.take k
      · have hct : (zs.take k).contains x = true := (has_int (zs.take k) x).2 hin
        rw [hct] at HC
        have HR := Lib.hid (show decide zs.Nodup = false from decide_eq_false (nodup_hit HX.out hin))
        clear hin hct
        go_wp2_with (go_at_call 91; (with_reducible refine HC.out.mono ?_); rintro e w' ⟨rfl, rfl⟩)
        go_ret
        exact ⟨by rw [HR.out]; rfl, rfl⟩
      · have hct : (zs.take k).contains x = false := Bool.eq_false_iff.2 (fun h => hin ((has_int (zs.take k) x).1 h))
        rw [hct] at HC
        have HN2 := Lib.hid (nodup_next HN.out HX.out hin)
        clear hin hct
        go_wp2_with (go_at_call 91; (with_reducible refine HC.out.mono ?_); rintro e w' ⟨rfl, rfl⟩)
        go_roundw
        case rel => exact ⟨k + 1, by go_num, by omega, HN2, by first | rfl | trivial⟩
        case measure => simp [intOf]; omega
    · obtain rfl : k = zs.length := by omega
      have HR := Lib.hid (show decide zs.Nodup = true from decide_eq_true (by have := HN.out; rwa [List.take_length] at this))
      go_wp2
      go_ret
      exact ⟨by rw [HR.out]; rfl, rfl⟩
set_option maxHeartbeats 8000000 in
set_option maxRecDepth 100000 in
theorem twiceS_any (v : Value) (zs : List ByteArray) (w : World) (ht : Hid (Tbl w v 1 (strRows zs))) (hl : zs.length ≤ 1048576) :
    Calls Tryz.prog 35 #[v] w fun e w' => e = .returned (.bool (!decide zs.Nodup)) ∧ w' = w := by
  have hlen : (strRows zs).length = zs.length := by unfold strRows; rw [List.length_map]
  obtain ⟨A, cap, rfl⟩ := ht.out.form
  rw [hlen] at ht ⊢
  have hcap := ht.out.cap
  have HLen := Lib.hid hlen
  clear hlen
  go_enter Tryz.func35, Tryz.ntmps35
  go_wp2
  go_loopw [7] (fun i wr => ∃ k : Nat, i = .int .i64 k ∧ k ≤ zs.length ∧ Hid ((zs.take k).Nodup) ∧ wr = w) (fun i _ => zs.length - (intOf i).toNat)
  case atStart => exact ⟨0, rfl, by omega, Lib.hid (by simp), rfl⟩
  case round =>
    obtain ⟨k, rfl, hk, HN, rfl⟩ := hrel
    by_cases hlt : k < zs.length
    · obtain ⟨b, o, rfl, hbs, hx⟩ := ht.out.at1 (by rw [HLen.out]; omega)
      obtain ⟨x, hxk⟩ : ∃ x, zs[k]? = some x := ⟨_, List.getElem?_eq_getElem hlt⟩
      have c1 := hx k _ (by unfold strRows; rw [List.getElem?_map, hxk]; rfl)
      have hsl := cut22 b o zs.length cap k (by omega)
      have HC := Lib.hid (Tryz.slices_Contains_string b o k cap zs x wr (by omega) (by omega) (fun j hj => hx j _ (by unfold strRows; rw [List.getElem?_map, List.getElem?_eq_getElem hj, (getD_str hj)]; rfl)))
      have HX := Lib.hid hxk
      clear hx hxk
      by_cases hin : x ∈ zs.take k
      · have hct : Lib.containsS (zs.take k) x = true := (Lib.containsS_iff (zs.take k) x).2 hin
        rw [hct] at HC
        have HR := Lib.hid (show decide zs.Nodup = false from decide_eq_false (nodup_hit HX.out hin))
        clear hin hct
        go_wp2_with (go_at_call 26; (with_reducible refine HC.out.mono ?_); rintro e w' ⟨rfl, rfl⟩)
        go_ret
        exact ⟨by rw [HR.out]; rfl, rfl⟩
      · have hct : Lib.containsS (zs.take k) x = false := Bool.eq_false_iff.2 (fun h => hin ((Lib.containsS_iff (zs.take k) x).1 h))
        rw [hct] at HC
        have HN2 := Lib.hid (nodup_next HN.out HX.out hin)
        clear hin hct
        go_wp2_with (go_at_call 26; (with_reducible refine HC.out.mono ?_); rintro e w' ⟨rfl, rfl⟩)
        go_roundw
        case rel => exact ⟨k + 1, by go_num, by omega, HN2, by first | rfl | trivial⟩
        case measure => simp [intOf]; omega
    · obtain rfl : k = zs.length := by omega
      have HR := Lib.hid (show decide zs.Nodup = true from decide_eq_true (by have := HN.out; rwa [List.take_length] at this))
      go_wp2
      go_ret
      exact ⟨by rw [HR.out]; rfl, rfl⟩
end Go.Proofs.YtjndgkbikhndoaaGreatDoor

namespace Go.Proofs.YtjndgkbikhndoaaGreatDoor
open Go.RowKit Go.ChangeShapes Go.WideShapes
set_option linter.unusedVariables false

def okH (m : Int) (h : Int) : Bool := decide (0 ≤ h) && decide (h < m)
theorem none_any (h m : Int) (p : Nat) (w : World) (hb : Hid (Blk w p [.int .i64 m] 3)) :
    Calls Tryz.prog 61 #[.int .i64 h, .pointer (some ⟨p, 0, none⟩)] w fun e w' => e = .returned (.bool (!okH m h)) ∧ Hid (Chg [] w w') := by
  have c0 := hb.out.cell 0 _ rfl
  by_cases h1 : h < 0
  · have HR := Lib.hid (show okH m h = false from by unfold okH; rw [decide_eq_false (by omega)]; rfl)
    go_enter Tryz.func61, Tryz.ntmps61
    go_wp2
    go_ret
    exact ⟨by rw [HR.out]; rfl, Chg.refl _ _⟩
  · have h2 : 0 ≤ h := by omega
    have HR := Lib.hid (show okH m h = decide (h < m) from by unfold okH; rw [decide_eq_true h2]; rfl)
    by_cases h3 : m ≤ h
    · have HQ := Lib.hid (show decide (h < m) = false from decide_eq_false (by omega))
      go_enter Tryz.func61, Tryz.ntmps61
      go_wp2
      go_ret
      exact ⟨by rw [HR.out, HQ.out]; rfl, Chg.refl _ _⟩
    · have HQ := Lib.hid (show decide (h < m) = true from decide_eq_true (by omega))
      go_enter Tryz.func61, Tryz.ntmps61
      go_wp2
      go_ret
      exact ⟨by rw [HR.out, HQ.out]; rfl, Chg.refl _ _⟩
set_option maxHeartbeats 8000000 in
set_option maxRecDepth 100000 in
theorem indexI_any (v : Value) (zs : List Int) (m : Int) (p : Nat) (w : World) (ht : Hid (Tbl w v 1 (intRows zs))) (hl : zs.length ≤ 1048576) (hb : Hid (Blk w p [.int .i64 m] 3)) :
    Calls Tryz.prog 90 #[v, .func (.func 61) #[] #[.pointer (some ⟨p, 0, none⟩)]] w fun e w' => (∃ i : Int, e = .returned (.int .i64 i) ∧ decide (0 ≤ i) = !zs.all (okH m)) ∧ Hid (Chg [] w w') := by
  have hlen : (intRows zs).length = zs.length := by unfold intRows; rw [List.length_map]
  obtain ⟨A, cap, rfl⟩ := ht.out.form
  rw [hlen] at ht ⊢
  have hcap := ht.out.cap
  have HLen := Lib.hid hlen
  clear hlen
  have eg : ∀ args w, (callFunc 61 args).run Tryz.prog w = .ok (.enter 61 args) w := enters_of Tryz.func61 (by kernel_rfl) rfl
  go_enter Tryz.func90, Tryz.ntmps90
  go_wp2
  go_loopw [8] (fun i wr => ∃ k : Nat, i = .int .i64 k ∧ k ≤ zs.length ∧ Hid (∀ (j : Nat) x, j < k → zs[j]? = some x → okH m x = true) ∧ Hid (Chg [] w wr)) (fun i _ => zs.length - (intOf i).toNat)
  case atStart => exact ⟨0, rfl, by omega, Lib.hid (fun j g hj => by omega), Chg.refl _ _⟩
  case round =>
    obtain ⟨k, rfl, hk, HN, HC⟩ := hrel
    by_cases hlt : k < zs.length
    · obtain ⟨b, o, rfl, hbs, hx⟩ := ht.out.at1 (by rw [HLen.out]; omega)
      obtain ⟨x, hxk⟩ : ∃ x, zs[k]? = some x := ⟨_, List.getElem?_eq_getElem hlt⟩
      have c1 := HC.out.cell (hx k _ (by unfold intRows; rw [List.getElem?_map, hxk]; rfl)) (by simp)
      have HX := Lib.hid hxk
      have hcall := (none_any x m p wr (Lib.hid (hb.out.chg HC.out (by simp))))
      clear hx hxk
      cases hin : okH m x
      · rw [hin] at hcall
        have HE := Lib.hid (show zs.all (okH m) = false from any_hit HX.out hin)
        clear hin
        go_wp2_with (go_at_fn 61; refine hcall.mono ?_; rintro e w2 ⟨rfl, H2⟩)
        go_ret
        exact ⟨⟨(k : Int), rfl, by rw [HE.out]; exact decide_eq_true (by omega)⟩, HC.out.trans H2.out (by simp)⟩
      · rw [hin] at hcall
        have HN2 := Lib.hid (next_good (p := okH m) HN.out HX.out hin)
        clear hin
        go_wp2_with (go_at_fn 61; refine hcall.mono ?_; rintro e w2 ⟨rfl, H2⟩)
        go_roundw
        case rel => exact ⟨k + 1, by go_num, by omega, HN2, HC.out.trans H2.out (by simp)⟩
        case measure => simp [intOf]; omega
    · obtain rfl : k = zs.length := by omega
      have HE := Lib.hid (show zs.all (okH m) = true from all_good HN.out)
      go_wp2
      go_ret
      exact ⟨⟨-1, rfl, by rw [HE.out]; rfl⟩, HC.out⟩
set_option maxHeartbeats 8000000 in
theorem containsI_any (v : Value) (zs : List Int) (m : Int) (p : Nat) (w : World) (ht : Hid (Tbl w v 1 (intRows zs))) (hl : zs.length ≤ 1048576) (hb : Hid (Blk w p [.int .i64 m] 3)) :
    Calls Tryz.prog 63 #[v, .func (.func 61) #[] #[.pointer (some ⟨p, 0, none⟩)]] w fun e w' => e = .returned (.bool (!zs.all (okH m))) ∧ Hid (Chg [] w w') := by
  have HI := Lib.hid (indexI_any v zs m p w ht hl hb)
  go_enter Tryz.func63, Tryz.ntmps63
  go_wp2_with fail
  refine HI.out.mono ?_
  rintro e w2 ⟨⟨i, rfl, hi⟩, H2⟩
  have HJ := Lib.hid hi
  clear hi
  go_wp2
  go_ret
  exact ⟨by rw [← HJ.out]; rfl, H2.out⟩
theorem notok_any (s : ByteArray) (w : World) (hs : s.size ≤ 1048576) :
    Calls Tryz.prog 86 #[.string s] w fun e w' => e = .returned (.bool (!E.tokB s)) ∧ Hid (Chg [] w w') := by
  go_enter Tryz.func86, Tryz.ntmps86
  go_wp2_with fail
  refine (E.token_any s _ hs).mono ?_
  rintro e w2 ⟨rfl, H2⟩
  go_wp2
  go_ret
  exact ⟨by first | rfl | simp, H2.out⟩
set_option maxHeartbeats 8000000 in
set_option maxRecDepth 100000 in
theorem indexS_any (v : Value) (zs : List ByteArray) (w : World) (ht : Hid (Tbl w v 1 (strRows zs))) (hl : zs.length ≤ 1048576) (hs : Hid (∀ t, t ∈ zs → t.size ≤ 1048576)) :
    Calls Tryz.prog 116 #[v, .func (.func 86) #[] #[]] w fun e w' => (∃ i : Int, e = .returned (.int .i64 i) ∧ decide (0 ≤ i) = !zs.all E.tokB) ∧ Hid (Chg [] w w') := by
  have hlen : (strRows zs).length = zs.length := by unfold strRows; rw [List.length_map]
  obtain ⟨A, cap, rfl⟩ := ht.out.form
  rw [hlen] at ht ⊢
  have hcap := ht.out.cap
  have HLen := Lib.hid hlen
  clear hlen
  have eg : ∀ args w, (callFunc 86 args).run Tryz.prog w = .ok (.enter 86 args) w := enters_of Tryz.func86 (by kernel_rfl) rfl
  go_enter Tryz.func116, Tryz.ntmps116
  go_wp2
  go_loopw [8] (fun i wr => ∃ k : Nat, i = .int .i64 k ∧ k ≤ zs.length ∧ Hid (∀ (j : Nat) x, j < k → zs[j]? = some x → E.tokB x = true) ∧ Hid (Chg [] w wr)) (fun i _ => zs.length - (intOf i).toNat)
  case atStart => exact ⟨0, rfl, by omega, Lib.hid (fun j g hj => by omega), Chg.refl _ _⟩
  case round =>
    obtain ⟨k, rfl, hk, HN, HC⟩ := hrel
    by_cases hlt : k < zs.length
    · obtain ⟨b, o, rfl, hbs, hx⟩ := ht.out.at1 (by rw [HLen.out]; omega)
      obtain ⟨x, hxk⟩ : ∃ x, zs[k]? = some x := ⟨_, List.getElem?_eq_getElem hlt⟩
      have c1 := HC.out.cell (hx k _ (by unfold strRows; rw [List.getElem?_map, hxk]; rfl)) (by simp)
      have HX := Lib.hid hxk
      have hcall := (notok_any x wr (hs.out x (List.mem_of_getElem? HX.out)))
      clear hx hxk
      cases hin : E.tokB x
      · rw [hin] at hcall
        have HE := Lib.hid (show zs.all (E.tokB) = false from any_hit HX.out hin)
        clear hin
        go_wp2_with (go_at_fn 86; refine hcall.mono ?_; rintro e w2 ⟨rfl, H2⟩)
        go_ret
        exact ⟨⟨(k : Int), rfl, by rw [HE.out]; exact decide_eq_true (by omega)⟩, HC.out.trans H2.out (by simp)⟩
      · rw [hin] at hcall
        have HN2 := Lib.hid (next_good (p := E.tokB) HN.out HX.out hin)
        clear hin
        go_wp2_with (go_at_fn 86; refine hcall.mono ?_; rintro e w2 ⟨rfl, H2⟩)
        go_roundw
        case rel => exact ⟨k + 1, by go_num, by omega, HN2, HC.out.trans H2.out (by simp)⟩
        case measure => simp [intOf]; omega
    · obtain rfl : k = zs.length := by omega
      have HE := Lib.hid (show zs.all (E.tokB) = true from all_good HN.out)
      go_wp2
      go_ret
      exact ⟨⟨-1, rfl, by rw [HE.out]; rfl⟩, HC.out⟩
set_option maxHeartbeats 8000000 in
theorem containsS_any (v : Value) (zs : List ByteArray) (w : World) (ht : Hid (Tbl w v 1 (strRows zs))) (hl : zs.length ≤ 1048576) (hs : Hid (∀ t, t ∈ zs → t.size ≤ 1048576)) :
    Calls Tryz.prog 89 #[v, .func (.func 86) #[] #[]] w fun e w' => e = .returned (.bool (!zs.all E.tokB)) ∧ Hid (Chg [] w w') := by
  have HI := Lib.hid (indexS_any v zs w ht hl hs)
  go_enter Tryz.func89, Tryz.ntmps89
  go_wp2_with fail
  refine HI.out.mono ?_
  rintro e w2 ⟨⟨i, rfl, hi⟩, H2⟩
  have HJ := Lib.hid hi
  clear hi
  go_wp2
  go_ret
  exact ⟨by rw [← HJ.out]; rfl, H2.out⟩
end Go.Proofs.YtjndgkbikhndoaaGreatDoor

namespace Go.Proofs.YtjndgkbikhndoaaGreatDoor
open Go.RowKit Go.ChangeShapes Go.WideShapes
set_option linter.unusedVariables false

theorem emp_true {s : ByteArray} (h : s.size = 0) : s.toList.isEmpty = true := by
  have hl : s.data.toList = [] := List.eq_nil_of_length_eq_zero (by rw [toList_len]; exact h)
  rw [Lib.toList_data, hl]
  rfl
theorem emp_false {s : ByteArray} (h : ¬ s.size = 0) : s.toList.isEmpty = false := by
  rw [Lib.toList_data, List.isEmpty_eq_false_iff]
  intro e
  exact h (by rw [← toList_len, e]; rfl)
theorem tokB_empty {s : ByteArray} (h : s.size = 0) : E.tokB s = false := by
  have hl : s.data.toList = [] := List.eq_nil_of_length_eq_zero (by rw [toList_len]; exact h)
  unfold E.tokB
  rw [hl]
  rfl
def askOK (hd va : ByteArray) : Bool := if hd.size = 0 then decide (va.size = 0) else E.tokB hd && E.valB va
def nameOK (host : ByteArray) : Bool := decide (host.size = 0) || hostOK host || wildOK host
theorem match_eq (m : Mt) : matchOK m = (nameOK m.host && placeOK m.pre && decide (m.methods.length ≤ 8) && m.methods.all E.tokB && askOK m.header m.value) := rfl
theorem trimPre_len (l p : List UInt8) : (Lib.trimPrefix l p).length ≤ l.length := by
  unfold Lib.trimPrefix
  split
  · rw [List.length_drop]; omega
  · omega
theorem wildB_len (s : ByteArray) : (wildB s).size ≤ s.size := by
  have := trimPre_len s.data.toList [42, 46]
  rw [toList_len] at this
  show (wildB s).data.size ≤ _
  unfold wildB
  rw [List.size_toArray]
  exact this
set_option maxHeartbeats 8000000 in
set_option maxRecDepth 100000 in
theorem cmatch_any (host pre hd va : ByteArray) (ms : List ByteArray) (mv : Value) (w : World) (hE : Hid (Env w)) (hms : Hid (Tbl w mv 1 (strRows ms))) (hsz : Hid (MtSz ⟨host, pre, ms, hd, va⟩)) (z : Bool) (hz : matchOK ⟨host, pre, ms, hd, va⟩ = z) :
    Calls Tryz.prog 62 #[.agg #[.string host, .string pre, mv, .string hd, .string va]] w fun e w' => e = .returned (.bool z) ∧ Hid (Chg [] w w') := by
  have hlen : (strRows ms).length = ms.length := by unfold strRows; rw [List.length_map]
  obtain ⟨A, cap, rfl⟩ := hms.out.form
  rw [hlen] at hms ⊢
  have HLen := Lib.hid hlen
  rw [match_eq] at hz
  have HZ := Lib.hid hz
  clear hz hlen
  have HB0 := Lib.hid (Blk.new w [.string host, .string pre, .slice A ms.length cap, .string hd, .string va] 24)
  have HC0 := Lib.hid ((Chg.refl [] w).alloc (.cells #[.string host, .string pre, .slice A ms.length cap, .string hd, .string va] 24))
  have HP := Lib.hid (fun w => Tryz.strings_CutPrefix host ⟨#[42, 46]⟩ w)
  rw [show (⟨#[42, 46]⟩ : ByteArray).data.toList = [42, 46] from rfl] at HP
  have hwl := wildB_len host
  have hw : (⟨(Lib.trimPrefix host.data.toList [42, 46]).toArray⟩ : ByteArray) = wildB host := rfl
  rw [hw] at HP
  have hwo : wildOK host = (Lib.hasPrefix host.data.toList [42, 46] && hostOK (wildB host)) := rfl
  have hno : nameOK host = (decide (host.size = 0) || hostOK host || wildOK host) := rfl
  rw [hwo] at hno
  obtain ⟨is, his⟩ : ∃ is, Lib.hasPrefix host.data.toList [42, 46] = is := ⟨_, rfl⟩
  rw [his] at HP hno
  generalize wildB host = wild at *
  have HN0 := Lib.hid hno
  clear hw hwo his hno
  have hhs : host.size ≤ 1048576 := hsz.out.host
  have hps : pre.size ≤ 1048576 := hsz.out.pre
  have hds : hd.size ≤ 1048576 := hsz.out.header
  have hvs : va.size ≤ 1048576 := hsz.out.value
  have hmn : ms.length ≤ 1048576 := hsz.out.mn
  have HMS := Lib.hid hsz.out.ms
  go_enter Tryz.func62, Tryz.ntmps62
  go_upto_region 2 with (go_at_call 30; (with_reducible refine (HP.out _).mono ?_); rintro e w' ⟨rfl, hw⟩; rw [hw]; clear hw)
  generalize w.alloc (.cells #[.string host, .string pre, .slice A ms.length cap, .string hd, .string va] 24) = W1 at HB0 HC0 ⊢
  generalize w.heap.size = b at HB0 ⊢
  have HB := HB0
  have HC := HC0
  clear HB0 HC0
  go_cut [5] (fun s5 wx => s5 = .bool (nameOK host) ∧ Hid (Blk wx b [.string host, .string pre, .slice A ms.length cap, .string hd, .string va] 24) ∧ Hid (Chg [] w wx))
  case first =>
    (have HBb := HB.out;
     have c0 := HBb.cell 0 _ rfl;
     have c1 := HBb.cell 1 _ rfl;
     have c2 := HBb.cell 2 _ rfl;
     have c3 := HBb.cell 3 _ rfl;
     have c4 := HBb.cell 4 _ rfl;
     clear HBb)
    by_cases h0 : host.size = 0
    · have HN := Lib.hid (show nameOK host = true from by rw [HN0.out, decide_eq_true h0]; rfl)
      have he := emp_true h0
      clear h0
      go_wp2_with fail
      go_meet
      exact ⟨by first | rw [HN.out] | (rw [HN.out]; rfl), HB, HC⟩
    · have he := emp_false h0
      cases hh : hostOK host
      · have HN1 := HN0.out
        rw [decide_eq_false h0, hh, Bool.or_false, Bool.false_or] at HN1
        have HN1 := Lib.hid HN1
        have HH := Lib.hid hh
        clear h0 hh
        go_wp2_with fail
        refine (chost_any host _ hhs (Lib.hid (hE.out.chg HC.out)) false HH.out).mono ?_
        rintro e w2 ⟨rfl, H2⟩
        have HB2 := Lib.hid (HB.out.chg H2.out (by simp))
        have HC2 := Lib.hid (HC.out.trans H2.out (by simp))
        clear c0 c1 c2 c3 c4 HB HC
        have HB := HB2
        have HC := HC2
        clear HB2 HC2
        (have HBb := HB.out;
         have c0 := HBb.cell 0 _ rfl;
         have c1 := HBb.cell 1 _ rfl;
         have c2 := HBb.cell 2 _ rfl;
         have c3 := HBb.cell 3 _ rfl;
         have c4 := HBb.cell 4 _ rfl;
         clear HBb)
        cases is
        · have HN := Lib.hid (show nameOK host = false from by rw [HN1.out]; rfl)
          go_wp2_with fail
          go_meet
          exact ⟨by first | rw [HN.out] | (rw [HN.out]; rfl), HB, HC⟩
        · cases hw : hostOK wild
          · have HN := Lib.hid (show nameOK host = false from by rw [HN1.out, hw]; rfl)
            have HW := Lib.hid hw
            clear hw
            go_wp2_with fail
            refine (chost_any wild _ (by omega) (Lib.hid (hE.out.chg HC.out)) false HW.out).mono ?_
            rintro e w2 ⟨rfl, H2⟩
            have HB2 := Lib.hid (HB.out.chg H2.out (by simp))
            have HC2 := Lib.hid (HC.out.trans H2.out (by simp))
            clear c0 c1 c2 c3 c4 HB HC
            have HB := HB2
            have HC := HC2
            clear HB2 HC2
            (have HBb := HB.out;
             have c0 := HBb.cell 0 _ rfl;
             have c1 := HBb.cell 1 _ rfl;
             have c2 := HBb.cell 2 _ rfl;
             have c3 := HBb.cell 3 _ rfl;
             have c4 := HBb.cell 4 _ rfl;
             clear HBb)
            go_wp2_with fail
            go_meet
            exact ⟨by first | rw [HN.out] | (rw [HN.out]; rfl), HB, HC⟩
          · have HN := Lib.hid (show nameOK host = true from by rw [HN1.out, hw]; rfl)
            have HW := Lib.hid hw
            clear hw
            go_wp2_with fail
            refine (chost_any wild _ (by omega) (Lib.hid (hE.out.chg HC.out)) true HW.out).mono ?_
            rintro e w2 ⟨rfl, H2⟩
            have HB2 := Lib.hid (HB.out.chg H2.out (by simp))
            have HC2 := Lib.hid (HC.out.trans H2.out (by simp))
            clear c0 c1 c2 c3 c4 HB HC
            have HB := HB2
            have HC := HC2
            clear HB2 HC2
            (have HBb := HB.out;
             have c0 := HBb.cell 0 _ rfl;
             have c1 := HBb.cell 1 _ rfl;
             have c2 := HBb.cell 2 _ rfl;
             have c3 := HBb.cell 3 _ rfl;
             have c4 := HBb.cell 4 _ rfl;
             clear HBb)
            go_wp2_with fail
            go_meet
            exact ⟨by first | rw [HN.out] | (rw [HN.out]; rfl), HB, HC⟩
      · have HN := Lib.hid (show nameOK host = true from by rw [HN0.out, hh, Bool.or_true]; rfl)
        have HH := Lib.hid hh
        clear h0 hh
        go_wp2_with fail
        refine (chost_any host _ hhs (Lib.hid (hE.out.chg HC.out)) true HH.out).mono ?_
        rintro e w2 ⟨rfl, H2⟩
        have HB2 := Lib.hid (HB.out.chg H2.out (by simp))
        have HC2 := Lib.hid (HC.out.trans H2.out (by simp))
        clear c0 c1 c2 c3 c4 HB HC
        have HB := HB2
        have HC := HC2
        clear HB2 HC2
        (have HBb := HB.out;
         have c0 := HBb.cell 0 _ rfl;
         have c1 := HBb.cell 1 _ rfl;
         have c2 := HBb.cell 2 _ rfl;
         have c3 := HBb.cell 3 _ rfl;
         have c4 := HBb.cell 4 _ rfl;
         clear HBb)
        go_wp2_with fail
        go_meet
        exact ⟨by first | rw [HN.out] | (rw [HN.out]; rfl), HB, HC⟩
  case rest =>
  clear HB HC
  obtain ⟨rfl, HB, HC⟩ := hcut
  go_upto_region 4 with fail
  go_cut [7] (fun s7 wx => s7 = .bool (askOK hd va) ∧ Hid (Blk wx b [.string host, .string pre, .slice A ms.length cap, .string hd, .string va] 24) ∧ Hid (Chg [] w wx))
  case first =>
    (have HBb := HB.out;
     have c0 := HBb.cell 0 _ rfl;
     have c1 := HBb.cell 1 _ rfl;
     have c2 := HBb.cell 2 _ rfl;
     have c3 := HBb.cell 3 _ rfl;
     have c4 := HBb.cell 4 _ rfl;
     clear HBb)
    by_cases h0 : hd.size = 0
    · have he := emp_true h0
      by_cases h1 : va.size = 0
      · have HN := Lib.hid (show askOK hd va = true from by unfold askOK; rw [if_pos h0, decide_eq_true h1])
        have he1 := emp_true h1
        clear h0 h1
        go_wp2_with fail
        go_meet
        exact ⟨by first | rw [HN.out] | (rw [HN.out]; rfl), HB, HC⟩
      · have HN := Lib.hid (show askOK hd va = false from by unfold askOK; rw [if_pos h0, decide_eq_false h1])
        have he1 := emp_false h1
        have HT := Lib.hid (tokB_empty h0)
        clear h0 h1
        go_wp2_with fail
        refine (E.token_any hd _ hds).mono ?_
        rintro e w2 ⟨rfl, H2⟩
        have HB2 := Lib.hid (HB.out.chg H2.out (by simp))
        have HC2 := Lib.hid (HC.out.trans H2.out (by simp))
        clear c0 c1 c2 c3 c4 HB HC
        have HB := HB2
        have HC := HC2
        clear HB2 HC2
        (have HBb := HB.out;
         have c0 := HBb.cell 0 _ rfl;
         have c1 := HBb.cell 1 _ rfl;
         have c2 := HBb.cell 2 _ rfl;
         have c3 := HBb.cell 3 _ rfl;
         have c4 := HBb.cell 4 _ rfl;
         clear HBb)
        rw [HT.out]
        go_wp2_with fail
        go_meet
        exact ⟨by first | rw [HN.out] | (rw [HN.out]; rfl), HB, HC⟩
    · have he := emp_false h0
      have hask : askOK hd va = (E.tokB hd && E.valB va) := by unfold askOK; rw [if_neg h0]
      have HA := Lib.hid hask
      clear h0 hask
      go_wp2_with fail
      refine (E.token_any hd _ hds).mono ?_
      rintro e w2 ⟨rfl, H2⟩
      have HB2 := Lib.hid (HB.out.chg H2.out (by simp))
      have HC2 := Lib.hid (HC.out.trans H2.out (by simp))
      clear c0 c1 c2 c3 c4 HB HC
      have HB := HB2
      have HC := HC2
      clear HB2 HC2
      (have HBb := HB.out;
       have c0 := HBb.cell 0 _ rfl;
       have c1 := HBb.cell 1 _ rfl;
       have c2 := HBb.cell 2 _ rfl;
       have c3 := HBb.cell 3 _ rfl;
       have c4 := HBb.cell 4 _ rfl;
       clear HBb)
      cases ht : E.tokB hd
      · have HN := Lib.hid (show askOK hd va = false from by rw [HA.out, ht]; rfl)
        clear ht
        go_wp2_with fail
        go_meet
        exact ⟨by first | rw [HN.out] | (rw [HN.out]; rfl), HB, HC⟩
      · have HN := Lib.hid (show askOK hd va = E.valB va from by rw [HA.out, ht, Bool.true_and])
        clear ht
        go_wp2_with fail
        refine (E.value_any va _ hvs).mono ?_
        rintro e w2 ⟨rfl, H2⟩
        have HB2 := Lib.hid (HB.out.chg H2.out (by simp))
        have HC2 := Lib.hid (HC.out.trans H2.out (by simp))
        clear c0 c1 c2 c3 c4 HB HC
        have HB := HB2
        have HC := HC2
        clear HB2 HC2
        (have HBb := HB.out;
         have c0 := HBb.cell 0 _ rfl;
         have c1 := HBb.cell 1 _ rfl;
         have c2 := HBb.cell 2 _ rfl;
         have c3 := HBb.cell 3 _ rfl;
         have c4 := HBb.cell 4 _ rfl;
         clear HBb)
        go_wp2_with fail
        go_meet
        exact ⟨by first | rw [HN.out] | (rw [HN.out]; rfl), HB, HC⟩
  case rest =>
  clear HB HC
  obtain ⟨rfl, HB, HC⟩ := hcut
  (have HBb := HB.out;
   have c0 := HBb.cell 0 _ rfl;
   have c1 := HBb.cell 1 _ rfl;
   have c2 := HBb.cell 2 _ rfl;
   have c3 := HBb.cell 3 _ rfl;
   have c4 := HBb.cell 4 _ rfl;
   clear HBb)
  have hz := HZ.out
  generalize askOK hd va = ask at hz ⊢
  cases hn : nameOK host
  · rw [hn] at hz
    have HR := Lib.hid (show z = false from hz.symm)
    clear hz hn
    go_wp2
    go_ret
    exact ⟨by rw [HR.out]; rfl, HC.out⟩
  · rw [hn, Bool.true_and] at hz
    clear hn
    cases hpl : placeOK pre
    · rw [hpl] at hz
      have HR := Lib.hid (show z = false from hz.symm)
      have HPL := Lib.hid hpl
      clear hz hpl
      go_wp2_with fail
      refine (cplace_any pre _ (Lib.hid (hE.out.chg HC.out)) false HPL.out).mono ?_
      rintro e w2 ⟨rfl, H2⟩
      have HB2 := Lib.hid (HB.out.chg H2.out (by simp))
      have HC2 := Lib.hid (HC.out.trans H2.out (by simp))
      clear c0 c1 c2 c3 c4 HB HC
      have HB := HB2
      have HC := HC2
      clear HB2 HC2
      (have HBb := HB.out;
       have c0 := HBb.cell 0 _ rfl;
       have c1 := HBb.cell 1 _ rfl;
       have c2 := HBb.cell 2 _ rfl;
       have c3 := HBb.cell 3 _ rfl;
       have c4 := HBb.cell 4 _ rfl;
       clear HBb)
      go_wp2
      go_ret
      exact ⟨by rw [HR.out]; rfl, HC.out⟩
    · rw [hpl, Bool.true_and] at hz
      have HPL := Lib.hid hpl
      clear hpl
      by_cases h8 : ms.length ≤ 8
      · rw [decide_eq_true h8, Bool.true_and] at hz
        have h8i : (ms.length : Int) ≤ 8 := by omega
        have HZ2 := Lib.hid hz
        clear hz
        go_wp2_with fail
        refine (cplace_any pre _ (Lib.hid (hE.out.chg HC.out)) true HPL.out).mono ?_
        rintro e w2 ⟨rfl, H2⟩
        have HB2 := Lib.hid (HB.out.chg H2.out (by simp))
        have HC2 := Lib.hid (HC.out.trans H2.out (by simp))
        clear c0 c1 c2 c3 c4 HB HC
        have HB := HB2
        have HC := HC2
        clear HB2 HC2
        (have HBb := HB.out;
         have c0 := HBb.cell 0 _ rfl;
         have c1 := HBb.cell 1 _ rfl;
         have c2 := HBb.cell 2 _ rfl;
         have c3 := HBb.cell 3 _ rfl;
         have c4 := HBb.cell 4 _ rfl;
         clear HBb)
        go_wp2_with fail
        refine (containsS_any _ ms _ (Lib.hid (hms.out.chg HC.out)) hmn HMS).mono ?_
        rintro e w2 ⟨rfl, H2⟩
        have HB2 := Lib.hid (HB.out.chg H2.out (by simp))
        have HC2 := Lib.hid (HC.out.trans H2.out (by simp))
        clear c0 c1 c2 c3 c4 HB HC
        have HB := HB2
        have HC := HC2
        clear HB2 HC2
        (have HBb := HB.out;
         have c0 := HBb.cell 0 _ rfl;
         have c1 := HBb.cell 1 _ rfl;
         have c2 := HBb.cell 2 _ rfl;
         have c3 := HBb.cell 3 _ rfl;
         have c4 := HBb.cell 4 _ rfl;
         clear HBb)
        have hz := HZ2.out
        cases hall : ms.all E.tokB
        · rw [hall] at hz
          have HR := Lib.hid (show z = false from hz.symm)
          clear hz hall
          go_wp2
          go_ret
          exact ⟨by rw [HR.out]; rfl, HC.out⟩
        · rw [hall, Bool.true_and] at hz
          have HR := Lib.hid hz
          clear hz hall
          go_wp2
          go_ret
          exact ⟨by rw [← HR.out]; rfl, HC.out⟩
      · rw [decide_eq_false h8] at hz
        have h8i : ¬ (ms.length : Int) ≤ 8 := by omega
        have HR := Lib.hid (show z = false from hz.symm)
        clear hz
        go_wp2_with fail
        refine (cplace_any pre _ (Lib.hid (hE.out.chg HC.out)) true HPL.out).mono ?_
        rintro e w2 ⟨rfl, H2⟩
        have HB2 := Lib.hid (HB.out.chg H2.out (by simp))
        have HC2 := Lib.hid (HC.out.trans H2.out (by simp))
        clear c0 c1 c2 c3 c4 HB HC
        have HB := HB2
        have HC := HC2
        clear HB2 HC2
        (have HBb := HB.out;
         have c0 := HBb.cell 0 _ rfl;
         have c1 := HBb.cell 1 _ rfl;
         have c2 := HBb.cell 2 _ rfl;
         have c3 := HBb.cell 3 _ rfl;
         have c4 := HBb.cell 4 _ rfl;
         clear HBb)
        go_wp2
        go_ret
        exact ⟨by rw [HR.out]; rfl, HC.out⟩
end Go.Proofs.YtjndgkbikhndoaaGreatDoor
