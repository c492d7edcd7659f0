/- Layer 6, the reference: Digits, named. -/
import Derived.Test.YtjndgkbikhndoaaGreatDoorU3
namespace Go.Proofs.YtjndgkbikhndoaaGreatDoor
open Go.RowKit Go.ChangeShapes Go.WideShapes
set_option linter.unusedVariables false

set_option maxHeartbeats 4000000 in
set_option maxRecDepth 100000 in
theorem rdigits_any (s : ByteArray) (w : World) (hs : s.size ≤ 1048576) (a b : Int) (hab : numF s.data.toList = (a, b)) :
    Calls Tryz.prog 110 #[.string s, .int .i64 10] w fun e w' => e = .returned (.tuple #[.int .i64 a, .int .i64 b]) ∧ w = w' := by
  have hz3 : (s.size : Int) ≤ 1048576 := by omega
  have HAB := Lib.hid hab
  clear hab
  by_cases h0 : s.size = 0
  · have hn0 : s.data.toList = [] := List.eq_nil_of_length_eq_zero (by rw [toList_len]; exact h0)
    have hab := HAB.out
    unfold numF at hab
    rw [if_pos hn0] at hab
    obtain ⟨q1, q2⟩ := Prod.mk.inj hab
    subst q1 q2
    have h00 : ((s.size : Int) == 0) = true := beq_iff_eq.2 (by omega)
    clear hab hn0 HAB
    go_enter Tryz.func110, Tryz.ntmps110
    go_wp2
    go_ret2
    exact ⟨rfl, rfl⟩
  · have hn0 : s.data.toList ≠ [] := by
      intro h
      rw [← toList_len, h] at h0
      exact h0 rfl
    have h00 : ((s.size : Int) == 0) = false := beq_eq_false_iff_ne.2 (by omega)
    have hab := HAB.out
    unfold numF at hab
    rw [if_neg hn0] at hab
    have HG := Lib.hid hab
    clear hab hn0 HAB h0
    go_enter Tryz.func110, Tryz.ntmps110
    go_wp2
    go_loopw [6, 7] (fun nv i wr => ∃ k n : Nat, k ≤ s.size ∧ n ≤ 90071992547409929 ∧ nv = .int .i64 n ∧ i = .int .i64 k ∧ Hid (numGo n (decide (9007199254740992 < n)) (s.data.toList.drop k) = (a, b)) ∧ wr = w) (fun _ i _ => s.size - (intOf i).toNat)
    case atStart => exact ⟨0, 0, by omega, by omega, rfl, rfl, HG, rfl⟩
    case round =>
      obtain ⟨k, n, hk, hn, rfl, rfl, HD, rfl⟩ := hrel
      by_cases hlt : k < s.size
      · have hlt2 : (k : Int) < (s.size : Int) := by omega
        have hcl := toList_get s k hlt
        obtain ⟨c, hc⟩ : ∃ c, s[k]'hlt = c := ⟨_, rfl⟩
        rw [hc] at hcl
        have hb : (c.toNat : Int) ≤ 255 := by have := c.toNat_lt; omega
        have HDG := Lib.hid (fun w => digit_any (c.toNat : Int) w (by omega) hb)
        by_cases hd : 48 ≤ c.toNat ∧ c.toNat ≤ 57
        · have hv : dig10 (c.toNat : Int) = (c.toNat : Int) - 48 := by unfold dig10; rw [if_pos (by omega)]
          rw [hv] at HDG
          obtain ⟨d, hdd⟩ : ∃ d, c.toNat - 48 = d := ⟨_, rfl⟩
          have hd9 : d ≤ 9 := by omega
          have hcd : (c.toNat : Int) = (d : Int) + 48 := by omega
          have hnd : ¬ ((c.toNat : Int) - 48 < 0) := by omega
          by_cases hbig : 9007199254740992 < n
          · have hx := num_dig1 (n := n) (r := s.data.toList.drop (k + 1)) hd
            have HX := Lib.hid (show numGo n (decide (9007199254740992 < n)) (s.data.toList.drop (k + 1)) = (a, b) from by
              rw [decide_eq_true hbig, ← hx, ← drop_get hcl, ← HD.out, decide_eq_true hbig])
            have hbig2 : ¬ (n : Int) ≤ 9007199254740992 := by omega
            clear hcl hx HD hd hv hcd
            go_wp2_with (go_at_call 133; (with_reducible refine (HDG.out _).mono ?_); rintro e w' ⟨rfl, rfl⟩)
            go_roundw
            case rel => exact ⟨k + 1, n, by omega, by omega, rfl, by go_num, HX, by first | rfl | trivial⟩
            case measure => simp [intOf]; omega
          · have hx := num_dig0 (n := n) (r := s.data.toList.drop (k + 1)) hd
            have HX := Lib.hid (show numGo (n * 10 + d) (decide (9007199254740992 < n * 10 + d)) (s.data.toList.drop (k + 1)) = (a, b) from by
              rw [← hdd, ← hx, ← drop_get hcl, ← HD.out, decide_eq_false hbig])
            have hbig2 : (n : Int) ≤ 9007199254740992 := by omega
            have hv2 : (c.toNat : Int) - 48 = (d : Int) := by omega
            rw [hv2] at HDG hnd
            clear hcl hx HD hd hv hcd hv2
            go_wp2_with (go_at_call 133; (with_reducible refine (HDG.out _).mono ?_); rintro e w' ⟨rfl, rfl⟩)
            go_roundw
            case rel => exact ⟨k + 1, n * 10 + d, by omega, by omega, by go_num, by go_num, HX, by first | rfl | trivial⟩
            case measure => simp [intOf]; omega
        · have hv : dig10 (c.toNat : Int) = -1 := by unfold dig10; rw [if_neg (by omega)]
          rw [hv] at HDG
          have hx := num_no (n := n) (b := decide (9007199254740992 < n)) (r := s.data.toList.drop (k + 1)) hd
          rw [← drop_get hcl, HD.out] at hx
          obtain ⟨q1, q2⟩ := Prod.mk.inj hx
          subst q1 q2
          clear hcl hx HD hd hv HG
          go_wp2_with (go_at_call 133; (with_reducible refine (HDG.out _).mono ?_); rintro e w' ⟨rfl, rfl⟩)
          go_ret2
          exact ⟨rfl, rfl⟩
      · obtain rfl : k = s.size := by omega
        have hx := HD.out
        rw [← toList_len, List.drop_length] at hx
        by_cases hbig : 9007199254740992 < n
        · rw [decide_eq_true hbig] at hx
          obtain ⟨q1, q2⟩ := Prod.mk.inj (show ((0 : Int), (51 : Int)) = (a, b) from hx)
          subst q1 q2
          have hbig2 : (9007199254740992 : Int) < (n : Int) := by omega
          clear hx HG
          go_wp2
          go_ret2
          exact ⟨rfl, rfl⟩
        · rw [decide_eq_false hbig] at hx
          obtain ⟨q1, q2⟩ := Prod.mk.inj (show ((n : Int), (0 : Int)) = (a, b) from hx)
          subst q1 q2
          have hbig2 : ¬ (9007199254740992 : Int) < (n : Int) := by omega
          clear hx HG
          go_wp2
          go_ret2
          exact ⟨rfl, rfl⟩
theorem named_eq (l : List UInt8) (h1 : l[0]? = some 91) : hostL l = (decide (3 ≤ l.length) && (decide (l[l.length - 1]? = some 93) && ((l.drop 1).take (l.length - 2)).all (fun c => !badR c.toNat))) := by
  obtain ⟨r, rfl⟩ : ∃ r, l = 91 :: r := by
    cases l with
    | nil => simp at h1
    | cons c r =>
      have : c = 91 := by simpa using h1
      exact ⟨r, by rw [this]⟩
  have hp : Lib.hasPrefix (91 :: r) [91] = true := by simp [Lib.hasPrefix]
  have e1 : Lib.trimPrefix (91 :: r) [91] = r := by
    unfold Lib.trimPrefix
    rw [hp, if_pos rfl]
    rfl
  unfold hostL
  rw [hp, if_pos rfl, e1]
  rcases List.eq_nil_or_concat r with rfl | ⟨q, x, rfl⟩
  · rfl
  · rw [List.concat_eq_append]
    have hl : (91 :: (q ++ [x])).length = q.length + 2 := by simp
    have hlast : (91 :: (q ++ [x]))[(91 :: (q ++ [x])).length - 1]? = some x := by
      rw [hl, show q.length + 2 - 1 = q.length + 1 by omega, List.getElem?_cons_succ, List.getElem?_append_right (Nat.le_refl _), Nat.sub_self]
      rfl
    have hmid : ((91 :: (q ++ [x])).drop 1).take ((91 :: (q ++ [x])).length - 2) = q := by
      rw [hl, Nat.add_sub_cancel]
      exact List.take_left
    rw [hlast, hmid, hl]
    have hs : Lib.hasSuffix (q ++ [x]) [93] = decide (some x = some 93) := by
      unfold Lib.hasSuffix List.isSuffixOf
      rw [List.reverse_append]
      simp only [List.reverse_singleton, List.singleton_append, List.isPrefixOf, Bool.and_true]
      rw [Bool.eq_iff_iff, beq_iff_eq, decide_eq_true_eq]
      constructor
      · intro e; rw [e]
      · intro e; injection e with e; exact e.symm
    rw [hs]
    by_cases hx : x = 93
    · subst hx
      have hts : Lib.trimSuffix (q ++ [93]) [93] = q := by
        unfold Lib.trimSuffix
        rw [hs, if_pos (by simp), List.length_append, Nat.add_sub_cancel]
        exact List.take_left
      rw [hts, decide_eq_true (show (some (93 : UInt8)) = some 93 from rfl), Bool.true_and, Bool.true_and]
      have hix : decide (Lib.idxFunc badR true ⟨q.toArray⟩ < 0) = q.all (fun c => !badR c.toNat) := by
        rw [Bool.eq_iff_iff, decide_eq_true_eq, idx_iff, List.all_eq_true]
        exact ⟨fun h c hc => by rw [h c hc]; rfl, fun h c hc => by simpa using h c hc⟩
      rw [hix]
      cases q with
      | nil => rfl
      | cons c q => simp
    · rw [decide_eq_false (fun e => hx (by injection e))]
      simp
end Go.Proofs.YtjndgkbikhndoaaGreatDoor
