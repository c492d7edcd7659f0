/- Layer 6, the reference: named. -/
import Derived.Test.YtjndgkbikhndoaaGreatDoorU4
namespace Go.Proofs.YtjndgkbikhndoaaGreatDoor
open Go.RowKit Go.ChangeShapes Go.WideShapes
set_option linter.unusedVariables false

theorem badR_byte (c : UInt8) : badR c.toNat = (!hexI (c.toNat : Int) && (decide (c.toNat ≠ 58) && decide (c.toNat ≠ 46))) := by
  unfold badR
  by_cases h : 127 < c.toNat
  · have hx : hexI (c.toNat : Int) = false := by
      unfold hexI
      simp
      omega
    rw [decide_eq_true h, hx, decide_eq_true (show c.toNat ≠ 58 by omega), decide_eq_true (show c.toNat ≠ 46 by omega)]
    rfl
  · rw [decide_eq_false h]
    rfl
theorem mid_bad {l : List UInt8} {k : Nat} {c : UInt8} (h : l[k]? = some c) (h1 : 1 ≤ k) (h2 : k < l.length - 1) (hb : badR c.toNat = true) : ((l.drop 1).take (l.length - 2)).all (fun c => !badR c.toNat) = false := by
  rw [List.all_eq_false]
  refine ⟨c, ?_, by simp [hb]⟩
  refine List.mem_of_getElem? (i := k - 1) ?_
  rw [List.getElem?_take, if_pos (by omega), List.getElem?_drop, show 1 + (k - 1) = k by omega]
  exact h
theorem mid_good {l : List UInt8} (h : ∀ (j : Nat) (c : UInt8), 1 ≤ j → j < l.length - 1 → l[j]? = some c → badR c.toNat = false) : ((l.drop 1).take (l.length - 2)).all (fun c => !badR c.toNat) = true := by
  rw [List.all_eq_true]
  intro c hc
  obtain ⟨j, hj, e⟩ := List.getElem_of_mem hc
  have h2 : ((l.drop 1).take (l.length - 2))[j]? = some c := by rw [List.getElem?_eq_getElem hj, e]
  rw [List.length_take, List.length_drop] at hj
  rw [List.getElem?_take, if_pos (by omega), List.getElem?_drop] at h2
  rw [h (1 + j) c (by omega) (by omega) h2]
  rfl
set_option maxHeartbeats 4000000 in
set_option maxRecDepth 100000 in
theorem named_br (s : ByteArray) (w : World) (hs : s.size ≤ 1048576) (h0 : 0 < s.size) (h91 : ((s[0]'h0).toNat : Int) = 91) (z : Bool) (hz : hostL s.data.toList = z) : Calls Tryz.prog 109 #[.string s] w fun e w' => e = .returned (.bool z) ∧ w = w' := by
  have hz3 : (s.size : Int) ≤ 1048576 := by omega
  have h00 : (0 : Int) < (s.size : Int) := by omega
  have hg0 := toList_get s 0 h0
  have hgz : s.data.toList[0]? = some 91 := by
    rw [hg0]
    congr 1
    refine UInt8.toNat_inj.1 ?_
    have : (91 : UInt8).toNat = 91 := rfl
    omega
  rw [named_eq _ hgz, toList_len] at hz
  clear hg0 hgz
  by_cases h3 : 3 ≤ s.size
  · rw [decide_eq_true h3, Bool.true_and] at hz
    have h31 : ¬ (s.size : Int) < 3 := by omega
    obtain ⟨j, hj⟩ : ∃ j, s.size - 1 = j := ⟨_, rfl⟩
    have hjl : j < s.size := by omega
    have hje : (s.size : Int) - 1 = (j : Int) := by omega
    have hgl := toList_get s j hjl
    obtain ⟨x, hx⟩ : ∃ x, s[j]'hjl = x := ⟨_, rfl⟩
    rw [hx] at hgl
    rw [hj, hgl] at hz
    have HGL := Lib.hid hgl
    have HJ := Lib.hid hj
    clear hgl hj
    by_cases h93 : x = 93
    · have h93i : (x.toNat : Int) = 93 := by rw [h93]; rfl
      rw [h93, decide_eq_true (show (some (93 : UInt8)) = some 93 from rfl), Bool.true_and] at hz
      have HZ := Lib.hid hz
      clear hz h93
      go_enter Tryz.func109, Tryz.ntmps109
      go_wp2
      go_loopw [4] (fun i wr => ∃ k : Nat, 1 ≤ k ∧ k ≤ j ∧ i = .int .i64 k ∧ Hid (∀ (i : Nat) (c : UInt8), 1 ≤ i → i < k → s.data.toList[i]? = some c → badR c.toNat = false) ∧ wr = w) (fun i _ => j - (intOf i).toNat)
      case atStart => exact ⟨1, by omega, by omega, rfl, Lib.hid (fun i c h1 h2 => by omega), rfl⟩
      case round =>
        obtain ⟨k, hk1, hk, rfl, HN, rfl⟩ := hrel
        by_cases hlt : k < j
        · have hlt2 : (k : Int) < (j : Int) := by omega
          have hks : k < s.size := by omega
          have hks2 : (k : Int) < (s.size : Int) := by omega
          have hcl := toList_get s k hks
          obtain ⟨c, hc⟩ : ∃ c, s[k]'hks = c := ⟨_, rfl⟩
          rw [hc] at hcl
          have hbr := badR_byte c
          have HSTEP : badR c.toNat = false → Hid (∀ (i : Nat) (c : UInt8), 1 ≤ i → i < k + 1 → s.data.toList[i]? = some c → badR c.toNat = false) := fun hb => Lib.hid (fun i d h1 h2 h3 => by
            rcases Nat.lt_or_ge i k with q | q
            · exact HN.out i d h1 q h3
            · obtain rfl : i = k := by omega
              rw [hcl] at h3
              injection h3 with h3
              rw [← h3]
              exact hb)
          cases q : hexI (c.toNat : Int)
          · have HX : ∀ w, Calls Tryz.prog 131 #[.int .u8 c.toNat] w fun e w' => e = .returned (.bool false) ∧ w = w' := fun w => by rw [← q]; exact rhex_any _ w
            rw [q] at hbr
            by_cases h58 : c.toNat = 58
            · have HS2 := HSTEP (by rw [hbr, h58]; rfl)
              have h4 : ((c.toNat : Int) != 58) = false := by rw [show (c.toNat : Int) = 58 by omega]; rfl
              clear hcl hbr HSTEP q h58
              go_wp2_with (go_at_call 131; (with_reducible refine (HX _).mono ?_); rintro e w' ⟨rfl, rfl⟩)
              go_roundw
              case rel => exact ⟨k + 1, by omega, by omega, by go_num, HS2, by first | rfl | trivial⟩
              case measure => simp [intOf]; omega
            · have h4 : ((c.toNat : Int) != 58) = true := bne_iff_ne.2 (by omega)
              by_cases h46 : c.toNat = 46
              · have HS2 := HSTEP (by rw [hbr, h46]; rfl)
                have h6 : ((c.toNat : Int) != 46) = false := by rw [show (c.toNat : Int) = 46 by omega]; rfl
                clear hcl hbr HSTEP q h58 h46
                go_wp2_with (go_at_call 131; (with_reducible refine (HX _).mono ?_); rintro e w' ⟨rfl, rfl⟩)
                go_roundw
                case rel => exact ⟨k + 1, by omega, by omega, by go_num, HS2, by first | rfl | trivial⟩
                case measure => simp [intOf]; omega
              · have h6 : ((c.toNat : Int) != 46) = true := bne_iff_ne.2 (by omega)
                have HR := Lib.hid (show z = false from by
                  rw [← HZ.out, ← toList_len]
                  refine mid_bad hcl hk1 ?_ (by rw [hbr, decide_eq_true h58, decide_eq_true h46]; rfl)
                  rw [toList_len, HJ.out]
                  exact hlt)
                clear hcl hbr HSTEP q h58 h46
                go_wp2_with (go_at_call 131; (with_reducible refine (HX _).mono ?_); rintro e w' ⟨rfl, rfl⟩)
                go_ret
                exact ⟨by rw [HR.out]; rfl, rfl⟩
          · have HX : ∀ w, Calls Tryz.prog 131 #[.int .u8 c.toNat] w fun e w' => e = .returned (.bool true) ∧ w = w' := fun w => by rw [← q]; exact rhex_any _ w
            rw [q] at hbr
            have HS2 := HSTEP (by rw [hbr]; rfl)
            clear hcl hbr HSTEP q
            go_wp2_with (go_at_call 131; (with_reducible refine (HX _).mono ?_); rintro e w' ⟨rfl, rfl⟩)
            go_roundw
            case rel => exact ⟨k + 1, by omega, by omega, by go_num, HS2, by first | rfl | trivial⟩
            case measure => simp [intOf]; omega
        · obtain rfl : k = j := by omega
          have HR := Lib.hid (show z = true from by
            rw [← HZ.out, ← toList_len]
            refine mid_good (fun i c h1 h2 h3 => HN.out i c h1 ?_ h3)
            rw [toList_len, HJ.out] at h2
            exact h2)
          go_wp2
          go_ret
          exact ⟨by rw [HR.out]; rfl, rfl⟩
    · have h93i : ((x.toNat : Int) != 93) = true := bne_iff_ne.2 (fun e => h93 (UInt8.toNat_inj.1 (by have : (93 : UInt8).toNat = 93 := rfl; omega)))
      have h93j : ¬ (x.toNat : Int) = 93 := bne_iff_ne.1 h93i
      rw [decide_eq_false (fun e => h93 (by injection e)), Bool.false_and] at hz
      subst hz
      clear h93
      go_enter Tryz.func109, Tryz.ntmps109
      go_wp2
      go_ret
      exact ⟨rfl, rfl⟩
  · rw [decide_eq_false h3, Bool.false_and] at hz
    subst hz
    have h31 : (s.size : Int) < 3 := by omega
    go_enter Tryz.func109, Tryz.ntmps109
    go_wp2
    go_ret
    exact ⟨rfl, rfl⟩
set_option maxHeartbeats 4000000 in
set_option maxRecDepth 100000 in
theorem named_any (s : ByteArray) (w : World) (hs : s.size ≤ 1048576) (z : Bool) (hz : hostL s.data.toList = z) : Calls Tryz.prog 109 #[.string s] w fun e w' => e = .returned (.bool z) ∧ w = w' := by
  have hz3 : (s.size : Int) ≤ 1048576 := by omega
  by_cases h0 : 0 < s.size
  · by_cases h91 : ((s[0]'h0).toNat : Int) = 91
    · exact named_br s w hs h0 h91 z hz
    · have h00 : (0 : Int) < (s.size : Int) := by omega
      have hg0 := toList_get s 0 h0
      obtain ⟨x, hx⟩ : ∃ x, s[0]'h0 = x := ⟨_, rfl⟩
      rw [hx] at hg0 h91
      have hne : ((x.toNat : Int) == 91) = false := beq_eq_false_iff_ne.2 h91
      have hp : Lib.hasPrefix s.data.toList [91] = false := by
        unfold Lib.hasPrefix
        cases hl : s.data.toList with
        | nil => rfl
        | cons y r =>
          rw [hl] at hg0
          have : y = x := by simpa using hg0
          subst this
          simp only [List.isPrefixOf, Bool.and_true]
          rw [beq_eq_false_iff_ne]
          intro e
          rw [← e] at h91
          exact h91 rfl
      have he : s.data.toList.isEmpty = false := by
        rw [List.isEmpty_eq_false_iff]
        intro q
        rw [q] at hg0
        simp at hg0
      unfold hostL at hz
      rw [hp, if_neg (by decide), he, toList_len] at hz
      have HM := Lib.hid (fun w => rmade_any s ⟨#[45, 46, 95, 126, 33, 36, 38, 39, 40, 41, 42, 43, 59, 61]⟩ w (by omega) (by decide) (by decide))
      rw [show (⟨#[45, 46, 95, 126, 33, 36, 38, 39, 40, 41, 42, 43, 59, 61]⟩ : ByteArray).data.toList = hostMore from rfl] at HM
      generalize madeL hostMore s.data.toList = mm at hz HM
      clear hg0 hp he h91
      by_cases hl : s.size ≤ 255
      · have hl2 : (s.size : Int) ≤ 255 := by omega
        rw [decide_eq_true hl] at hz
        have hz' : mm = z := hz
        subst hz'
        clear hz hl
        go_enter Tryz.func109, Tryz.ntmps109
        go_wp2_with (go_at_call 132; (with_reducible refine (HM.out _).mono ?_); rintro e w' ⟨rfl, rfl⟩)
        go_ret
        exact ⟨rfl, rfl⟩
      · have hl2 : ¬ (s.size : Int) ≤ 255 := by omega
        rw [decide_eq_false hl] at hz
        have hz' : false = z := hz
        subst hz'
        clear hz hl
        go_enter Tryz.func109, Tryz.ntmps109
        go_wp2_with (go_at_call 132; (with_reducible refine (HM.out _).mono ?_); rintro e w' ⟨rfl, rfl⟩)
        go_ret
        exact ⟨rfl, rfl⟩
  · have h00 : ¬ (0 : Int) < (s.size : Int) := by omega
    have hl : s.data.toList = [] := List.eq_nil_of_length_eq_zero (by rw [toList_len]; omega)
    rw [hl] at hz
    have hz' : false = z := hz
    subst hz'
    clear hz hl
    go_enter Tryz.func109, Tryz.ntmps109
    go_wp2
    go_ret
    exact ⟨rfl, rfl⟩
end Go.Proofs.YtjndgkbikhndoaaGreatDoor
