/- Layer 5 (bytes): the reference's Value. -/
import Derived.Test.YtjndgkbikhndoaaGreatDoorE5
namespace Go.Proofs.YtjndgkbikhndoaaGreatDoor.E
open Go.RowKit Go.ChangeShapes Go.WideShapes
set_option linter.unusedVariables false

theorem val_no (s : ByteArray) (k : Nat) (c : UInt8) (hc : s.data.toList[k]? = some c) (h : okV c.toNat = false) : valB s = false := by
  unfold valB
  have : s.data.toList.all (fun c => okV c.toNat) = false := by
    rw [List.all_eq_false]
    exact ⟨c, List.mem_of_getElem? hc, by simp [h]⟩
  rw [this]
  rfl
theorem val_end (s : ByteArray) (h : ∀ (j : Nat) (c : UInt8), s.data.toList[j]? = some c → okV c.toNat = true) : valB s = decide (Lib.trimS s.data.toList bl2 = s.data.toList) := by
  unfold valB
  have : s.data.toList.all (fun c => okV c.toNat) = true := by
    rw [List.all_eq_true]
    intro c hc
    obtain ⟨j, hj, e⟩ := List.getElem_of_mem hc
    exact h j c (by rw [List.getElem?_eq_getElem hj, e])
  rw [this]
  rfl
theorem val_end0 (s : ByteArray) (h0 : s.size = 0) : valB s = true := by
  have : s.data.toList = [] := List.eq_nil_of_length_eq_zero (by rw [toList_len]; exact h0)
  unfold valB
  rw [this]
  rfl
theorem dec_and {p : Prop} [Decidable p] {x y : Bool} (h : p ↔ x = false ∧ y = false) : decide p = (!x && !y) := by
  by_cases hp : p
  · obtain ⟨h1, h2⟩ := h.1 hp
    rw [h1, h2, decide_eq_true hp]
    rfl
  · rw [decide_eq_false hp]
    cases x <;> cases y <;> first | rfl | exact absurd (h.2 ⟨rfl, rfl⟩) hp
theorem val_end1 (s : ByteArray) (a b : UInt8) (n : Nat) (hn : s.size = n + 1) (ha : s.data.toList[0]? = some a) (hb : s.data.toList[n]? = some b) : decide (Lib.trimS s.data.toList bl2 = s.data.toList) = (!(decide ((a.toNat : Int) = 9 ∨ (a.toNat : Int) = 32)) && !(decide ((b.toNat : Int) = 9 ∨ (b.toNat : Int) = 32))) := by
  have hl := toList_len s
  have hr : s.data.toList.reverse[0]? = some b := by
    rw [List.getElem?_reverse (by omega), show s.data.toList.length - 1 - 0 = n by omega, hb]
  have h1 := trim_self s.data.toList bl2
  rw [ha, hr] at h1
  rw [← bl2_iff, ← bl2_iff]
  have h2 : Lib.trimS s.data.toList bl2 = s.data.toList ↔ bl2.contains a = false ∧ bl2.contains b = false :=
    h1.trans ⟨fun h => ⟨h.1 a rfl, h.2 b rfl⟩, fun h => ⟨fun c e => by injection e with e; rw [← e]; exact h.1, fun c e => by injection e with e; rw [← e]; exact h.2⟩⟩
  exact dec_and h2
set_option maxHeartbeats 4000000 in
set_option maxRecDepth 100000 in
theorem rvalue_any (s : ByteArray) (w : World) (hs : s.size ≤ 1048576) : Calls Tryz.prog 112 #[.string s] w fun e w' => e = .returned (.bool (valB s)) ∧ w = w' := by
  have hz3 : (s.size : Int) ≤ 1048576 := by omega
  go_enter Tryz.func112, Tryz.ntmps112
  go_wp2
  go_loopw [4] (fun i wr => ∃ k : Nat, k ≤ s.size ∧ i = .int .i64 k ∧ Hid (∀ (j : Nat) (c : UInt8), j < k → s.data.toList[j]? = some c → okV c.toNat = true) ∧ w = wr) (fun i _ => s.size - (intOf i).toNat)
  case atStart => exact ⟨0, by omega, rfl, Lib.hid (fun j c hj => absurd hj (by omega)), by first | rfl | trivial⟩
  case round =>
    obtain ⟨k, hk, rfl, HA, rfl⟩ := hrel
    by_cases hlt : k < s.size
    · have hlt2 : (k : Int) < (s.size : Int) := by omega
      go_upto_region 6 with fail
      have hcl := toList_get s k hlt
      generalize s[k]'hlt = c at hcl ⊢
      have hb : (c.toNat : Int) ≤ 255 := by have := c.toNat_lt; omega
      have hb0 : (0 : Int) ≤ (c.toNat : Int) := by omega
      by_cases h1 : (c.toNat : Int) = 9
      · have k1 : ((c.toNat : Int) == 9) = true := beq_iff_eq.2 h1
        have HA2 := Lib.hid (all_step (p := fun c => okV c.toNat = true) HA.out hcl (by unfold okV; simp; omega))
        clear HA hcl
        generalize (c.toNat : Int) = x at *
        go_wp2
        go_roundw
        case rel => exact ⟨k + 1, by omega, by go_num, HA2, by first | rfl | trivial⟩
        case measure => simp [intOf]; omega
      · have k1 : ((c.toNat : Int) == 9) = false := beq_eq_false_iff_ne.2 h1
        by_cases h2 : (32 : Int) ≤ (c.toNat : Int)
        · by_cases h3 : (c.toNat : Int) ≤ 126
          · skip
            have HA2 := Lib.hid (all_step (p := fun c => okV c.toNat = true) HA.out hcl (by unfold okV; simp; omega))
            clear HA hcl
            generalize (c.toNat : Int) = x at *
            go_wp2
            go_roundw
            case rel => exact ⟨k + 1, by omega, by go_num, HA2, by first | rfl | trivial⟩
            case measure => simp [intOf]; omega
          · by_cases h4 : (128 : Int) ≤ (c.toNat : Int)
            · skip
              have HA2 := Lib.hid (all_step (p := fun c => okV c.toNat = true) HA.out hcl (by unfold okV; simp; omega))
              clear HA hcl
              generalize (c.toNat : Int) = x at *
              go_wp2
              go_roundw
              case rel => exact ⟨k + 1, by omega, by go_num, HA2, by first | rfl | trivial⟩
              case measure => simp [intOf]; omega
            · skip
              have HM := Lib.hid (val_no s k c hcl (by unfold okV; simp; omega))
              clear HA hcl
              generalize (c.toNat : Int) = x at *
              go_wp2
              go_ret
              exact ⟨by rw [HM.out]; rfl, by first | exact Chg.refl _ _ | rfl⟩
        · have h4 : ¬ (128 : Int) ≤ (c.toNat : Int) := by omega
          have HM := Lib.hid (val_no s k c hcl (by unfold okV; simp; omega))
          clear HA hcl
          generalize (c.toNat : Int) = x at *
          go_wp2
          go_ret
          exact ⟨by rw [HM.out]; rfl, by first | exact Chg.refl _ _ | rfl⟩
    · obtain rfl : k = s.size := by omega
      have HM := Lib.hid (val_end s (fun j c hc => HA.out j c (by rw [← toList_len]; exact (List.getElem?_eq_some_iff.1 hc).1) hc))
      by_cases h0 : s.size = 0
      · have HE := Lib.hid (val_end0 s h0)
        have h00 : ((s.size : Int) == 0) = true := by simp [h0]
        clear h0
        go_wp2
        go_ret
        exact ⟨by rw [HE.out]; rfl, by first | exact Chg.refl _ _ | rfl⟩
      · obtain ⟨n, hn⟩ : ∃ n, s.size = n + 1 := ⟨s.size - 1, by omega⟩
        have h00 : ((s.size : Int) == 0) = false := beq_eq_false_iff_ne.2 (by omega)
        have g0 := toList_get s 0 (by omega)
        have gn := toList_get s n (by omega)
        have HE := Lib.hid (val_end1 s _ _ n hn g0 gn)
        have HN := Lib.hid hn
        have hn2 : (s.size : Int) = (n : Int) + 1 := by omega
        go_wp2_with fail
        refine (rblank_any _ _).mono ?_
        rintro e w' ⟨rfl, rfl⟩
        generalize decide (((s[0]'(by omega)).toNat : Int) = 9 ∨ ((s[0]'(by omega)).toNat : Int) = 32) = z0 at HE ⊢
        cases z0
        · go_wp2_with fail
          refine (rblank_any _ _).mono ?_
          rintro e w' ⟨rfl, rfl⟩
          generalize decide (((s[n]'(by omega)).toNat : Int) = 9 ∨ ((s[n]'(by omega)).toNat : Int) = 32) = z1 at HE ⊢
          go_wp2
          go_ret
          exact ⟨by rw [HM.out, HE.out]; cases z1 <;> rfl, by first | exact Chg.refl _ _ | rfl⟩
        · go_wp2
          go_ret
          exact ⟨by rw [HM.out, HE.out]; rfl, by first | exact Chg.refl _ _ | rfl⟩
end Go.Proofs.YtjndgkbikhndoaaGreatDoor.E
