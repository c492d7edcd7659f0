/- Layer 5 (bytes): tchar, both sides. -/
import Derived.Test.YtjndgkbikhndoaaGreatDoorT3
import Derived.Lib.SlBytesConst
namespace Go.Proofs.YtjndgkbikhndoaaGreatDoor.E
open Go.RowKit Go.ChangeShapes Go.WideShapes
set_option linter.unusedVariables false

theorem rblank_any (c : Int) (w : World) : Calls Tryz.prog 135 #[.int .u8 c] w fun e w' => e = .returned (.bool (decide (c = 9 ∨ c = 32))) ∧ w = w' := by
  by_cases h1 : c = 9
  · subst h1
    go_enter Tryz.func135, Tryz.ntmps135
    go_wp2
    go_ret
    exact ⟨rfl, rfl⟩
  · by_cases h2 : c = 32
    · subst h2
      go_enter Tryz.func135, Tryz.ntmps135
      go_wp2
      go_ret
      exact ⟨rfl, rfl⟩
    · have k1 : (c == 9) = false := beq_eq_false_iff_ne.2 h1
      have k2 : (c == 32) = false := beq_eq_false_iff_ne.2 h2
      go_enter Tryz.func135, Tryz.ntmps135
      go_wp2
      go_ret
      exact ⟨by simp [h1, h2], rfl⟩

def punct : List Int := [33, 35, 36, 37, 38, 39, 42, 43, 45, 46, 94, 95, 96, 124, 126]
/-- May a byte stand in a token? -/
def tchI (c : Int) : Bool := decide (65 ≤ c ∧ c ≤ 90) || decide (97 ≤ c ∧ c ≤ 122) || decide (48 ≤ c ∧ c ≤ 57) || punct.contains c
theorem tchI_alnum {c : Int} (h : (65 ≤ c ∧ c ≤ 90) ∨ (97 ≤ c ∧ c ≤ 122) ∨ (48 ≤ c ∧ c ≤ 57)) : tchI c = true := by
  unfold tchI
  rcases h with h | h | h <;> simp [h]
theorem tchI_else {c : Int} (h : ¬ ((65 ≤ c ∧ c ≤ 90) ∨ (97 ≤ c ∧ c ≤ 122) ∨ (48 ≤ c ∧ c ≤ 57))) : tchI c = punct.contains c := by
  unfold tchI
  have h1 : ¬ (65 ≤ c ∧ c ≤ 90) := fun k => h (.inl k)
  have h2 : ¬ (97 ≤ c ∧ c ≤ 122) := fun k => h (.inr (.inl k))
  have h3 : ¬ (48 ≤ c ∧ c ≤ 57) := fun k => h (.inr (.inr k))
  rw [decide_eq_false h1, decide_eq_false h2, decide_eq_false h3]
  rfl
def punctV : Array Value := #[.int .u8 33, .int .u8 35, .int .u8 36, .int .u8 37, .int .u8 38, .int .u8 39, .int .u8 42, .int .u8 43, .int .u8 45, .int .u8 46, .int .u8 94, .int .u8 95, .int .u8 96, .int .u8 124, .int .u8 126]
theorem punct_get (k : Nat) (h : k < 15) : punctV[k]? = some (.int .u8 (punct.getD k 0)) := by
  have : ∀ k, k < 15 → punctV[k]? = some (.int .u8 (punct.getD k 0)) := by
    intro k hk
    match k, hk with
    | 0, _ => rfl
    | 1, _ => rfl
    | 2, _ => rfl
    | 3, _ => rfl
    | 4, _ => rfl
    | 5, _ => rfl
    | 6, _ => rfl
    | 7, _ => rfl
    | 8, _ => rfl
    | 9, _ => rfl
    | 10, _ => rfl
    | 11, _ => rfl
    | 12, _ => rfl
    | 13, _ => rfl
    | 14, _ => rfl
    | n + 15, h => omega
  exact this k h
theorem punct_mem (c : Int) (k : Nat) (h : k < 15) (e : punct.getD k 0 = c) : punct.contains c = true := by
  rw [List.contains_iff_mem, ← e, List.getD_eq_getElem?_getD, List.getElem?_eq_getElem (show k < punct.length from h)]
  exact List.getElem_mem _
theorem punct_none (c : Int) (h : ∀ j, j < 15 → punct.getD j 0 ≠ c) : punct.contains c = false := by
  rw [Bool.eq_false_iff]
  intro hc
  rw [List.contains_iff_mem] at hc
  obtain ⟨j, hj, e⟩ := List.getElem_of_mem hc
  refine h j hj ?_
  rw [List.getD_eq_getElem?_getD, List.getElem?_eq_getElem hj]
  exact e
set_option maxHeartbeats 4000000 in
set_option maxRecDepth 100000 in
theorem rtchar_e1 (c : Int) (w : World) (a1 : ¬ (65 : Int) ≤ c) (a2 : ¬ (97 : Int) ≤ c) (a3 : ¬ (48 : Int) ≤ c) :
    Calls Tryz.prog 134 #[.int .u8 c] w fun e w' => e = .returned (.bool (punct.contains c)) ∧ Hid (Chg [] w w') := by
  have hconv := Go.Lib.run_convert_bytes_const (P := Tryz.prog) w 100 5 punctV 15 15 Tryz.underlying100 Tryz.underlying5
  have HP := Lib.hid (show ∀ k, k < 15 → (w.alloc (.cells punctV 5 (punctV.size, punctV.size + 1))).cell? ⟨w.heap.size, k, none⟩ = some (.int .u8 (punct.getD k 0)) from by
    intro k hk
    rw [World.cell?_alloc_mark]
    exact punct_get k hk)
  have HC := Lib.hid ((Chg.refl [] w).alloc (.cells punctV 5 (punctV.size, punctV.size + 1)))
  generalize w.alloc (.cells punctV 5 (punctV.size, punctV.size + 1)) = w1 at *
  unfold punctV at hconv
  go_enter Tryz.func134, Tryz.ntmps134
  go_wp2
  go_loopw [30] (fun i wr => ∃ k : Nat, k ≤ 15 ∧ i = .int .i64 k ∧ Hid (∀ j, j < k → punct.getD j 0 ≠ c) ∧ wr = w1) (fun i _ => 15 - (intOf i).toNat)
  case atStart => exact ⟨0, by omega, rfl, Lib.hid (fun j hj => absurd hj (by omega)), rfl⟩
  case round =>
    obtain ⟨k, hk, rfl, HN, rfl⟩ := hrel
    by_cases hlt : k < 15
    · have hlt2 : (k : Int) < 15 := by omega
      have cell := HP.out k hlt
      by_cases he : punct.getD k 0 = c
      · rw [he] at cell
        have HM := Lib.hid (punct_mem c k hlt he)
        clear he
        go_wp2
        go_ret
        exact ⟨by rw [HM.out]; rfl, HC.out⟩
      · have hne : (c == punct.getD k 0) = false := beq_eq_false_iff_ne.2 (fun e => he e.symm)
        have HNE := Lib.hid he
        clear he
        have HX : Hid (∀ j, j < k + 1 → punct.getD j 0 ≠ c) := Lib.hid (fun j hj => by
          rcases Nat.lt_or_ge j k with h | h
          · exact HN.out j h
          · rw [show j = k by omega]
            exact HNE.out)
        clear HNE HN
        generalize punct.getD k 0 = x at cell hne
        go_wp2
        go_roundw
        case rel => exact ⟨k + 1, by omega, by go_num, HX, by first | rfl | trivial⟩
        case measure => simp [intOf]; omega
    · have e : k = 15 := by omega
      subst e
      have HM := Lib.hid (punct_none c HN.out)
      go_wp2
      go_ret
      exact ⟨by rw [HM.out]; rfl, HC.out⟩
set_option maxHeartbeats 4000000 in
set_option maxRecDepth 100000 in
theorem rtchar_e2 (c : Int) (w : World) (a1 : ¬ (65 : Int) ≤ c) (a2 : ¬ (97 : Int) ≤ c) (a3 : (48 : Int) ≤ c) (a4 : ¬ c ≤ 57) :
    Calls Tryz.prog 134 #[.int .u8 c] w fun e w' => e = .returned (.bool (punct.contains c)) ∧ Hid (Chg [] w w') := by
  have hconv := Go.Lib.run_convert_bytes_const (P := Tryz.prog) w 100 5 punctV 15 15 Tryz.underlying100 Tryz.underlying5
  have HP := Lib.hid (show ∀ k, k < 15 → (w.alloc (.cells punctV 5 (punctV.size, punctV.size + 1))).cell? ⟨w.heap.size, k, none⟩ = some (.int .u8 (punct.getD k 0)) from by
    intro k hk
    rw [World.cell?_alloc_mark]
    exact punct_get k hk)
  have HC := Lib.hid ((Chg.refl [] w).alloc (.cells punctV 5 (punctV.size, punctV.size + 1)))
  generalize w.alloc (.cells punctV 5 (punctV.size, punctV.size + 1)) = w1 at *
  unfold punctV at hconv
  go_enter Tryz.func134, Tryz.ntmps134
  go_wp2
  go_loopw [30] (fun i wr => ∃ k : Nat, k ≤ 15 ∧ i = .int .i64 k ∧ Hid (∀ j, j < k → punct.getD j 0 ≠ c) ∧ wr = w1) (fun i _ => 15 - (intOf i).toNat)
  case atStart => exact ⟨0, by omega, rfl, Lib.hid (fun j hj => absurd hj (by omega)), rfl⟩
  case round =>
    obtain ⟨k, hk, rfl, HN, rfl⟩ := hrel
    by_cases hlt : k < 15
    · have hlt2 : (k : Int) < 15 := by omega
      have cell := HP.out k hlt
      by_cases he : punct.getD k 0 = c
      · rw [he] at cell
        have HM := Lib.hid (punct_mem c k hlt he)
        clear he
        go_wp2
        go_ret
        exact ⟨by rw [HM.out]; rfl, HC.out⟩
      · have hne : (c == punct.getD k 0) = false := beq_eq_false_iff_ne.2 (fun e => he e.symm)
        have HNE := Lib.hid he
        clear he
        have HX : Hid (∀ j, j < k + 1 → punct.getD j 0 ≠ c) := Lib.hid (fun j hj => by
          rcases Nat.lt_or_ge j k with h | h
          · exact HN.out j h
          · rw [show j = k by omega]
            exact HNE.out)
        clear HNE HN
        generalize punct.getD k 0 = x at cell hne
        go_wp2
        go_roundw
        case rel => exact ⟨k + 1, by omega, by go_num, HX, by first | rfl | trivial⟩
        case measure => simp [intOf]; omega
    · have e : k = 15 := by omega
      subst e
      have HM := Lib.hid (punct_none c HN.out)
      go_wp2
      go_ret
      exact ⟨by rw [HM.out]; rfl, HC.out⟩
set_option maxHeartbeats 4000000 in
set_option maxRecDepth 100000 in
theorem rtchar_e3 (c : Int) (w : World) (a1 : (65 : Int) ≤ c) (a2 : ¬ (97 : Int) ≤ c) (a3 : (48 : Int) ≤ c) (a4 : ¬ c ≤ 57) (a5 : ¬ c ≤ 90) :
    Calls Tryz.prog 134 #[.int .u8 c] w fun e w' => e = .returned (.bool (punct.contains c)) ∧ Hid (Chg [] w w') := by
  have hconv := Go.Lib.run_convert_bytes_const (P := Tryz.prog) w 100 5 punctV 15 15 Tryz.underlying100 Tryz.underlying5
  have HP := Lib.hid (show ∀ k, k < 15 → (w.alloc (.cells punctV 5 (punctV.size, punctV.size + 1))).cell? ⟨w.heap.size, k, none⟩ = some (.int .u8 (punct.getD k 0)) from by
    intro k hk
    rw [World.cell?_alloc_mark]
    exact punct_get k hk)
  have HC := Lib.hid ((Chg.refl [] w).alloc (.cells punctV 5 (punctV.size, punctV.size + 1)))
  generalize w.alloc (.cells punctV 5 (punctV.size, punctV.size + 1)) = w1 at *
  unfold punctV at hconv
  go_enter Tryz.func134, Tryz.ntmps134
  go_wp2
  go_loopw [30] (fun i wr => ∃ k : Nat, k ≤ 15 ∧ i = .int .i64 k ∧ Hid (∀ j, j < k → punct.getD j 0 ≠ c) ∧ wr = w1) (fun i _ => 15 - (intOf i).toNat)
  case atStart => exact ⟨0, by omega, rfl, Lib.hid (fun j hj => absurd hj (by omega)), rfl⟩
  case round =>
    obtain ⟨k, hk, rfl, HN, rfl⟩ := hrel
    by_cases hlt : k < 15
    · have hlt2 : (k : Int) < 15 := by omega
      have cell := HP.out k hlt
      by_cases he : punct.getD k 0 = c
      · rw [he] at cell
        have HM := Lib.hid (punct_mem c k hlt he)
        clear he
        go_wp2
        go_ret
        exact ⟨by rw [HM.out]; rfl, HC.out⟩
      · have hne : (c == punct.getD k 0) = false := beq_eq_false_iff_ne.2 (fun e => he e.symm)
        have HNE := Lib.hid he
        clear he
        have HX : Hid (∀ j, j < k + 1 → punct.getD j 0 ≠ c) := Lib.hid (fun j hj => by
          rcases Nat.lt_or_ge j k with h | h
          · exact HN.out j h
          · rw [show j = k by omega]
            exact HNE.out)
        clear HNE HN
        generalize punct.getD k 0 = x at cell hne
        go_wp2
        go_roundw
        case rel => exact ⟨k + 1, by omega, by go_num, HX, by first | rfl | trivial⟩
        case measure => simp [intOf]; omega
    · have e : k = 15 := by omega
      subst e
      have HM := Lib.hid (punct_none c HN.out)
      go_wp2
      go_ret
      exact ⟨by rw [HM.out]; rfl, HC.out⟩
set_option maxHeartbeats 4000000 in
set_option maxRecDepth 100000 in
theorem rtchar_e4 (c : Int) (w : World) (a1 : (65 : Int) ≤ c) (a2 : (97 : Int) ≤ c) (a3 : (48 : Int) ≤ c) (a4 : ¬ c ≤ 57) (a5 : ¬ c ≤ 90) (a6 : ¬ c ≤ 122) :
    Calls Tryz.prog 134 #[.int .u8 c] w fun e w' => e = .returned (.bool (punct.contains c)) ∧ Hid (Chg [] w w') := by
  have hconv := Go.Lib.run_convert_bytes_const (P := Tryz.prog) w 100 5 punctV 15 15 Tryz.underlying100 Tryz.underlying5
  have HP := Lib.hid (show ∀ k, k < 15 → (w.alloc (.cells punctV 5 (punctV.size, punctV.size + 1))).cell? ⟨w.heap.size, k, none⟩ = some (.int .u8 (punct.getD k 0)) from by
    intro k hk
    rw [World.cell?_alloc_mark]
    exact punct_get k hk)
  have HC := Lib.hid ((Chg.refl [] w).alloc (.cells punctV 5 (punctV.size, punctV.size + 1)))
  generalize w.alloc (.cells punctV 5 (punctV.size, punctV.size + 1)) = w1 at *
  unfold punctV at hconv
  go_enter Tryz.func134, Tryz.ntmps134
  go_wp2
  go_loopw [30] (fun i wr => ∃ k : Nat, k ≤ 15 ∧ i = .int .i64 k ∧ Hid (∀ j, j < k → punct.getD j 0 ≠ c) ∧ wr = w1) (fun i _ => 15 - (intOf i).toNat)
  case atStart => exact ⟨0, by omega, rfl, Lib.hid (fun j hj => absurd hj (by omega)), rfl⟩
  case round =>
    obtain ⟨k, hk, rfl, HN, rfl⟩ := hrel
    by_cases hlt : k < 15
    · have hlt2 : (k : Int) < 15 := by omega
      have cell := HP.out k hlt
      by_cases he : punct.getD k 0 = c
      · rw [he] at cell
        have HM := Lib.hid (punct_mem c k hlt he)
        clear he
        go_wp2
        go_ret
        exact ⟨by rw [HM.out]; rfl, HC.out⟩
      · have hne : (c == punct.getD k 0) = false := beq_eq_false_iff_ne.2 (fun e => he e.symm)
        have HNE := Lib.hid he
        clear he
        have HX : Hid (∀ j, j < k + 1 → punct.getD j 0 ≠ c) := Lib.hid (fun j hj => by
          rcases Nat.lt_or_ge j k with h | h
          · exact HN.out j h
          · rw [show j = k by omega]
            exact HNE.out)
        clear HNE HN
        generalize punct.getD k 0 = x at cell hne
        go_wp2
        go_roundw
        case rel => exact ⟨k + 1, by omega, by go_num, HX, by first | rfl | trivial⟩
        case measure => simp [intOf]; omega
    · have e : k = 15 := by omega
      subst e
      have HM := Lib.hid (punct_none c HN.out)
      go_wp2
      go_ret
      exact ⟨by rw [HM.out]; rfl, HC.out⟩
set_option maxHeartbeats 2000000 in
theorem rtchar_any (c : Int) (w : World) : Calls Tryz.prog 134 #[.int .u8 c] w fun e w' => e = .returned (.bool (tchI c)) ∧ Hid (Chg [] w w') := by
  by_cases hy : (65 ≤ c ∧ c ≤ 90) ∨ (97 ≤ c ∧ c ≤ 122) ∨ (48 ≤ c ∧ c ≤ 57)
  · by_cases h1 : 65 ≤ c ∧ c ≤ 90
    · obtain ⟨a1, a2⟩ := h1
      have HY := Lib.hid (tchI_alnum hy)
      clear hy
      go_enter Tryz.func134, Tryz.ntmps134
      go_wp2
      go_ret
      exact ⟨by rw [HY.out]; rfl, Chg.refl _ _⟩
    · by_cases h2 : 97 ≤ c ∧ c ≤ 122
      · obtain ⟨a1, a2⟩ := h2
        have a3 : (65 : Int) ≤ c := by omega
        have a4 : ¬ c ≤ 90 := by omega
        clear h1
        have HY := Lib.hid (tchI_alnum hy)
        clear hy
        go_enter Tryz.func134, Tryz.ntmps134
        go_wp2
        go_ret
        exact ⟨by rw [HY.out]; rfl, Chg.refl _ _⟩
      · have a1 : (48 : Int) ≤ c := by omega
        have a2 : c ≤ 57 := by omega
        have a3 : ¬ (65 : Int) ≤ c := by omega
        have a4 : ¬ (97 : Int) ≤ c := by omega
        clear h1 h2
        have HY := Lib.hid (tchI_alnum hy)
        clear hy
        go_enter Tryz.func134, Tryz.ntmps134
        go_wp2
        go_ret
        exact ⟨by rw [HY.out]; rfl, Chg.refl _ _⟩
  · rw [tchI_else hy]
    by_cases h1 : (48 : Int) ≤ c
    · by_cases h2 : (65 : Int) ≤ c
      · by_cases h3 : (97 : Int) ≤ c
        · exact rtchar_e4 c w h2 h3 h1 (by omega) (by omega) (by omega)
        · exact rtchar_e3 c w h2 h3 h1 (by omega) (by omega)
      · exact rtchar_e2 c w h2 (by omega) h1 (by omega)
    · exact rtchar_e1 c w (by omega) (by omega) h1
end Go.Proofs.YtjndgkbikhndoaaGreatDoor.E
