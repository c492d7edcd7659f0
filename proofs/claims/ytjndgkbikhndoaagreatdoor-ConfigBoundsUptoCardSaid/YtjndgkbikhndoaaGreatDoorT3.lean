/- Layer 5: digits, Number. -/
import Derived.Test.YtjndgkbikhndoaaGreatDoorT2
namespace Go.Proofs.YtjndgkbikhndoaaGreatDoor
open Go.RowKit Go.ChangeShapes Go.WideShapes
set_option linter.unusedVariables false

/-- What the walks ask of the variables: that they hold something of their kind. -/
def Env (w : World) : Prop := (∃ m, w.cell? ⟨0, 0, none⟩ = some (.int .i64 m)) ∧ (∃ tp p, w.cell? ⟨1, 0, none⟩ = some (.iface tp p))
theorem Env.chg {w w' : World} (h : Env w) (hc : Chg [] w w') : Env w' := by
  obtain ⟨⟨m, h1⟩, ⟨tp, p, h2⟩⟩ := h
  exact ⟨⟨m, hc.cell h1 (by simp)⟩, ⟨tp, p, hc.cell h2 (by simp)⟩⟩
/-- The number that digits say, from n on; big: it is too great. -/
def numGo (n : Nat) (big : Bool) : List UInt8 → Int × Int
  | [] => if big then (0, 51) else (n, 0)
  | c :: r =>
    if 48 ≤ c.toNat ∧ c.toNat ≤ 57 then
      (if big then numGo n true r else numGo (n * 10 + (c.toNat - 48)) (decide (9007199254740992 < n * 10 + (c.toNat - 48))) r)
    else (0, 50)
def numF (l : List UInt8) : Int × Int := if l = [] then (0, 50) else numGo 0 false l
theorem puB_dig {c : UInt8} (h : 48 ≤ c.toNat ∧ c.toNat ≤ 57) : Lib.parseUintB 8 [c] = .ok (c.toNat - 48) := by
  unfold Lib.parseUintB
  rw [if_neg (by simp), Lib.parseUintM.eq_def]
  simp only [h, and_self, if_true]
  rw [if_neg (by omega), if_neg (by omega), Lib.parseUintM.eq_def]
  simp
theorem puB_no {c : UInt8} (h : ¬ (48 ≤ c.toNat ∧ c.toNat ≤ 57)) : Lib.parseUintB 8 [c] = Lib.parseUintB 8 [] := by
  unfold Lib.parseUintB
  rw [if_neg (by simp), if_pos rfl, Lib.parseUintM.eq_def]
  simp only [if_neg h]
theorem bytesWorld_chg (w : World) (s : ByteArray) : Chg [] w (Lib.bytesWorld w 5 s) := Chg.of_below (Lib.bytesWorld_below _ _ _)
/-- One byte of a text, as a text. -/
theorem one_text (s : ByteArray) (k : Nat) (c : UInt8) (h : s.data.toList[k]? = some c) : s.extract k (k + 1) = ⟨#[c]⟩ := by
  have hl : (s.extract k (k + 1)).data.toList = [c] := by
    obtain ⟨hk, e⟩ := List.getElem?_eq_some_iff.1 h
    rw [ByteArray.data_extract, Array.toList_extract, List.extract_eq_take_drop, show k + 1 - k = 1 by omega, List.drop_eq_getElem_cons hk, e]
    rfl
  cases hq : s.extract k (k + 1) with
  | mk d =>
    rw [hq] at hl
    have : d = #[c] := by
      apply Array.ext'
      exact hl
    rw [this]
theorem slice_run (s : ByteArray) (a b : Nat) (w : World) (h : a ≤ b) (hb : b ≤ s.size) : (Instr.slice 9 (.string s) (some (.int .i64 (a : Int))) (some (.int .i64 (b : Int))) none).run Tryz.prog w = .ok (.string (s.extract a b)) w := by
  have := run_slice_string (P := Tryz.prog) w 9 s .i64 .i64 (a : Int) (b : Int) Tryz.underlying9 (by omega) (by omega) (by omega)
  rw [Int.toNat_natCast, Int.toNat_natCast] at this
  exact this
theorem num_dig0 {n : Nat} {c : UInt8} {r : List UInt8} (h : 48 ≤ c.toNat ∧ c.toNat ≤ 57) : numGo n false (c :: r) = numGo (n * 10 + (c.toNat - 48)) (decide (9007199254740992 < n * 10 + (c.toNat - 48))) r := by
  rw [numGo.eq_def]
  simp only [h, and_self, if_true, Bool.false_eq_true, if_false]
theorem num_dig1 {n : Nat} {c : UInt8} {r : List UInt8} (h : 48 ≤ c.toNat ∧ c.toNat ≤ 57) : numGo n true (c :: r) = numGo n true r := by
  rw [numGo.eq_def]
  simp only [h, and_self, if_true]
theorem num_no {n : Nat} {b : Bool} {c : UInt8} {r : List UInt8} (h : ¬ (48 ≤ c.toNat ∧ c.toNat ≤ 57)) : numGo n b (c :: r) = (0, 50) := by
  rw [numGo.eq_def]
  simp only [if_neg h]
theorem drewN_chg (w : World) (n : Nat) : Chg [] w (w.drewN n) := (Chg.refl [] w).drewN n
set_option maxHeartbeats 4000000 in
set_option maxRecDepth 100000 in
theorem digits_any (s : ByteArray) (w : World) (hs : s.size ≤ 1048576) (hE : Hid (Env w)) (a b : Int) (hab : numF s.data.toList = (a, b)) :
    Calls Tryz.prog 103 #[.string s, .int .i64 10] w fun e w' => e = .returned (.tuple #[.int .i64 a, .int .i64 b]) ∧ Hid (Chg [] w w') := by
  have hz3 : (s.size : Int) ≤ 1048576 := by omega
  have HAB := Lib.hid hab
  clear hab
  go_enter Tryz.func103, Tryz.ntmps103
  go_wp2
  go_loopw [6, 7, 13] (fun nv bv i wr => ∃ k n : Nat, ∃ bg : Bool, k ≤ s.size ∧ n ≤ 90071992547409929 ∧ (bg = false → n ≤ 9007199254740992) ∧ nv = .int .i64 n ∧ bv = .bool bg ∧ i = .int .i64 k ∧ Hid (numGo n bg (s.data.toList.drop k) = numGo 0 false s.data.toList) ∧ Hid (Chg [] w wr)) (fun _ _ i _ => s.size - (intOf i).toNat)
  case atStart => exact ⟨0, 0, false, by omega, by omega, by omega, rfl, rfl, rfl, Lib.hid rfl, Chg.refl _ _⟩
  case round =>
    obtain ⟨k, n, bg, hk, hn, hnb, rfl, rfl, rfl, HD, HC⟩ := hrel
    by_cases hlt : k < s.size
    · have hlt2 : (k : Int) < (s.size : Int) := by omega
      have hcl := toList_get s k hlt
      obtain ⟨c, hc⟩ : ∃ c, s[k]'hlt = c := ⟨_, rfl⟩
      rw [hc] at hcl
      have hb : (c.toNat : Int) ≤ 255 := by have := c.toNat_lt; omega
      have HT := Lib.hid (one_text s k c hcl)
      have hsl := fun W => slice_run s k (k + 1) W (by omega) (by omega)
      rw [show ((k + 1 : Nat) : Int) = (k : Int) + 1 by omega, HT.out] at hsl
      have h1 : (⟨#[c]⟩ : ByteArray).size = 1 := rfl
      obtain ⟨⟨m, e1⟩, ⟨tp, p, e2⟩⟩ := hE.out.chg HC.out
      by_cases hd : 48 ≤ c.toNat ∧ c.toNat ≤ 57
      · have HP := Lib.hid (Tryz.strconv_ParseUint_10_at8_ok ⟨#[c]⟩ (by omega) (c.toNat - 48) (puB_dig hd) wr)
        obtain ⟨d, hdd⟩ : ∃ d, c.toNat - 48 = d := ⟨_, rfl⟩
        have hd9 : d ≤ 9 := by omega
        cases bg
        · have hx := num_dig0 (n := n) (r := s.data.toList.drop (k + 1)) hd
          rw [← drop_get hcl, HD.out, hdd] at hx
          rw [hdd] at HP
          have HX := Lib.hid hx
          have hn2 : n ≤ 9007199254740992 := hnb rfl
          clear hx hnb hd hcl HT h1 e1 e2
          go_wp2_with fail
          refine HP.out.mono ?_
          rintro e w2 ⟨rfl, H2⟩
          have HC2 := Lib.hid (HC.out.trans (show Chg [] wr w2 from by
            rcases H2 with rfl | rfl
            · exact Chg.refl _ _
            · exact bytesWorld_chg _ _) (by simp))
          clear H2
          go_wp2
          go_roundw
          case rel => exact ⟨k + 1, n * 10 + d, decide (9007199254740992 < n * 10 + d), by omega, by omega, fun h => Nat.not_lt.1 (of_decide_eq_false h), by go_num, by congr 1; exact decide_eq_decide.2 (by omega), by go_num, Lib.hid HX.out.symm, HC2⟩
          case measure => simp [intOf]; omega
        · have hx := num_dig1 (n := n) (r := s.data.toList.drop (k + 1)) hd
          rw [← drop_get hcl, HD.out] at hx
          rw [hdd] at HP
          have HX := Lib.hid hx
          clear hx hnb hd hcl HT h1 e1 e2
          go_wp2_with fail
          refine HP.out.mono ?_
          rintro e w2 ⟨rfl, H2⟩
          have HC2 := Lib.hid (HC.out.trans (show Chg [] wr w2 from by
            rcases H2 with rfl | rfl
            · exact Chg.refl _ _
            · exact bytesWorld_chg _ _) (by simp))
          clear H2
          go_wp2
          go_roundw
          case rel => exact ⟨k + 1, n, true, by omega, by omega, fun h => by simp at h, rfl, rfl, by go_num, Lib.hid HX.out.symm, HC2⟩
          case measure => simp [intOf]; omega
      · have HP := Lib.hid (Tryz.strconv_ParseUint_10_at8_syntax ⟨#[c]⟩ (by omega) (puB_no hd) _ wr e2 (.inr ⟨_, _, rfl⟩))
        have hx := num_no (n := n) (b := bg) (r := s.data.toList.drop (k + 1)) hd
        rw [← drop_get hcl, HD.out] at hx
        have hne : s.data.toList ≠ [] := by
          intro h
          rw [h] at hcl
          simp at hcl
        have hab := HAB.out
        unfold numF at hab
        rw [if_neg hne, hx] at hab
        injection hab with q1 q2
        subst q1 q2
        clear hx hnb hd hcl HT h1 e1 e2 hne
        go_wp2_with fail
        refine HP.out.mono ?_
        rintro e w2 ⟨N, rfl, -, -, H2⟩
        have HC2 := Lib.hid (HC.out.trans (Chg.of_below H2) (by simp))
        clear H2
        go_wp2
        go_ret2
        exact ⟨rfl, HC2.out⟩
    · obtain rfl : k = s.size := by omega
      have hx := HD.out
      rw [← toList_len, List.drop_length] at hx
      have hab := HAB.out
      unfold numF at hab
      by_cases h0 : s.size = 0
      · have hn0 : s.data.toList = [] := List.eq_nil_of_length_eq_zero (by rw [toList_len]; exact h0)
        rw [if_pos hn0] at hab
        injection hab with q1 q2
        subst q1 q2
        have he : s.toList.isEmpty = true := by rw [Lib.toList_data, hn0]; rfl
        clear hx hn0
        go_wp2
        go_ret2
        exact ⟨rfl, HC.out⟩
      · have hn0 : s.data.toList ≠ [] := by
          intro h
          rw [← toList_len, h] at h0
          exact h0 rfl
        rw [if_neg hn0, ← hx] at hab
        have he : s.toList.isEmpty = false := by rw [Lib.toList_data]; exact List.isEmpty_eq_false_iff.2 hn0
        clear hx hn0
        cases bg
        · obtain ⟨q1, q2⟩ := Prod.mk.inj (show ((n : Int), (0 : Int)) = (a, b) from hab)
          subst q1 q2
          clear hab
          go_wp2
          go_ret2
          exact ⟨rfl, HC.out⟩
        · obtain ⟨q1, q2⟩ := Prod.mk.inj (show ((0 : Int), (51 : Int)) = (a, b) from hab)
          subst q1 q2
          clear hab
          go_wp2
          go_ret2
          exact ⟨rfl, HC.out⟩
end Go.Proofs.YtjndgkbikhndoaaGreatDoor
