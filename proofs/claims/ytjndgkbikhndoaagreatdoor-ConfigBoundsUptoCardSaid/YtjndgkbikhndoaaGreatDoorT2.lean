/- Layer 6: hex, made. -/
import Derived.Test.YtjndgkbikhndoaaGreatDoorT1
import Derived.Test.YtjndgkbikhndoaaGreatDoorSh
namespace Go.Proofs.YtjndgkbikhndoaaGreatDoor
open Go.RowKit Go.ChangeShapes Go.WideShapes
set_option linter.unusedVariables false

def hexI (c : Int) : Bool := decide (97 ≤ c ∧ c ≤ 102) || decide (65 ≤ c ∧ c ≤ 70) || decide (48 ≤ c ∧ c ≤ 57)
def alnI (c : Int) : Bool := decide (97 ≤ c ∧ c ≤ 122) || decide (65 ≤ c ∧ c ≤ 90) || decide (48 ≤ c ∧ c ≤ 57)
/-- Is a text of letters, digits, some more bytes, and of % with two hex digits? -/
def madeL (more : List UInt8) : List UInt8 → Bool
  | [] => true
  | c :: r =>
    if alnI c.toNat then madeL more r
    else if c = 37 then
      match r with
      | a :: b :: q => hexI a.toNat && hexI b.toNat && madeL more q
      | _ => false
    else more.contains c && madeL more r
theorem hex_any (c : Int) (w : World) : Calls Tryz.prog 102 #[.int .u8 c] w fun e w' => e = .returned (.bool (hexI c)) ∧ w = w' := by
  by_cases a1 : 97 ≤ c
  · have a2 : (65 : Int) ≤ c := by omega
    have a3 : (48 : Int) ≤ c := by omega
    have a4 : ¬ c ≤ 57 := by omega
    have a5 : ¬ c ≤ 70 := by omega
    by_cases a6 : c ≤ 102
    · skip
      go_enter Tryz.func102, Tryz.ntmps102
      go_wp2
      go_ret
      exact ⟨by unfold hexI; congr 2; simp; omega, rfl⟩
    · skip
      go_enter Tryz.func102, Tryz.ntmps102
      go_wp2
      go_ret
      exact ⟨by unfold hexI; congr 2; simp; omega, rfl⟩
  · by_cases a2 : 65 ≤ c
    · have a3 : (48 : Int) ≤ c := by omega
      have a4 : ¬ c ≤ 57 := by omega
      by_cases a5 : c ≤ 70
      · skip
        go_enter Tryz.func102, Tryz.ntmps102
        go_wp2
        go_ret
        exact ⟨by unfold hexI; congr 2; simp; omega, rfl⟩
      · skip
        go_enter Tryz.func102, Tryz.ntmps102
        go_wp2
        go_ret
        exact ⟨by unfold hexI; congr 2; simp; omega, rfl⟩
    · by_cases a3 : 48 ≤ c
      · by_cases a4 : c ≤ 57
        · skip
          go_enter Tryz.func102, Tryz.ntmps102
          go_wp2
          go_ret
          exact ⟨by unfold hexI; congr 2; simp; omega, rfl⟩
        · skip
          go_enter Tryz.func102, Tryz.ntmps102
          go_wp2
          go_ret
          exact ⟨by unfold hexI; congr 2; simp; omega, rfl⟩
      · skip
        go_enter Tryz.func102, Tryz.ntmps102
        go_wp2
        go_ret
        exact ⟨by unfold hexI; congr 2; simp; omega, rfl⟩
theorem toList_len (s : ByteArray) : s.data.toList.length = s.size := by
  show s.data.toList.length = s.data.size
  rw [Array.length_toList]
theorem toList_get (s : ByteArray) (k : Nat) (h : k < s.size) : s.data.toList[k]? = some (s[k]'h) := by
  rw [List.getElem?_eq_getElem (by rw [toList_len]; exact h)]
  rfl
theorem drop_get {l : List UInt8} {k : Nat} {c : UInt8} (h : l[k]? = some c) : l.drop k = c :: l.drop (k + 1) := by
  obtain ⟨hk, e⟩ := List.getElem?_eq_some_iff.1 h
  rw [← e]
  exact List.drop_eq_getElem_cons hk
theorem made_aln {M : List UInt8} {c : UInt8} {r : List UInt8} (h : alnI c.toNat = true) : madeL M (c :: r) = madeL M r := by
  rw [madeL.eq_def]
  simp only [h, if_true]
theorem made_pct {M r : List UInt8} {a b : UInt8} : madeL M (37 :: a :: b :: r) = (hexI a.toNat && hexI b.toNat && madeL M r) := by
  rw [madeL.eq_def]
  rfl
theorem made_pct1 {M r : List UInt8} (h : r.length < 2) : madeL M (37 :: r) = false := by
  rw [madeL.eq_def]
  match r, h with
  | [], _ => rfl
  | [_], _ => rfl
theorem made_oth {M : List UInt8} {c : UInt8} {r : List UInt8} (h : alnI c.toNat = false) (h2 : c ≠ 37) : madeL M (c :: r) = (M.contains c && madeL M r) := by
  rw [madeL.eq_def]
  simp only [h, if_neg h2, Bool.false_eq_true, if_false]
set_option maxHeartbeats 4000000 in
set_option maxRecDepth 100000 in
theorem made_any (s more : ByteArray) (w : World) (hs : s.size ≤ 1048576) : Calls Tryz.prog 93 #[.string s, .string more] w fun e w' => e = .returned (.bool (madeL more.data.toList s.data.toList)) ∧ w = w' := by
  have hz3 : (s.size : Int) ≤ 1048576 := by omega
  go_enter Tryz.func93, Tryz.ntmps93
  go_wp2
  go_loopw [5] (fun i wr => ∃ k : Nat, k ≤ s.size ∧ i = .int .i64 k ∧ Hid (madeL more.data.toList (s.data.toList.drop k) = madeL more.data.toList s.data.toList) ∧ wr = w) (fun i _ => s.size - (intOf i).toNat)
  case atStart => exact ⟨0, by omega, rfl, Lib.hid rfl, rfl⟩
  case round =>
    obtain ⟨k, hk, rfl, HD, rfl⟩ := hrel
    by_cases hlt : k < s.size
    · have hlt2 : (k : Int) < (s.size : Int) := by omega
      have hcl := toList_get s k hlt
      obtain ⟨c, hc⟩ : ∃ c, s[k]'hlt = c := ⟨_, rfl⟩
      rw [hc] at hcl
      have hb : (c.toNat : Int) ≤ 255 := by have := c.toNat_lt; omega
      by_cases a1 : (97 : Int) ≤ (c.toNat : Int)
      · have a3 : (65 : Int) ≤ (c.toNat : Int) := by omega
        have a4 : (48 : Int) ≤ (c.toNat : Int) := by omega
        have a5 : ¬ (c.toNat : Int) ≤ 90 := by omega
        have a6 : ¬ (c.toNat : Int) ≤ 57 := by omega
        by_cases a2 : (c.toNat : Int) ≤ 122
        · skip
          (have HN := Lib.hid (HD.out.symm.trans (by rw [drop_get hcl, made_aln (by unfold alnI; simp; omega)]) : madeL more.data.toList s.data.toList = madeL more.data.toList (s.data.toList.drop (k + 1)));
           clear hcl HD;
           go_wp2;
           go_roundw;
           case rel => exact ⟨k + 1, by omega, by go_num, Lib.hid HN.out.symm, by first | rfl | trivial⟩;
           case measure => simp [intOf]; omega)
        · skip
          (have hne : ((c.toNat : Int) == 37) = false := beq_eq_false_iff_ne.2 (by omega);
           have hn37 : c ≠ 37 := by (rintro rfl; exact absurd hne (by decide));
           have hx := made_oth (M := more.data.toList) (r := s.data.toList.drop (k + 1)) (by unfold alnI; simp; omega : alnI c.toNat = false) hn37;
           have hback : ((c.toNat : Int)).toNat.toUInt8 = c := by simp;
           have hci := Lib.contains_iff_indexByte more.data.toList c;
           rw [← drop_get hcl, HD.out] at hx;
           clear hcl HD hn37;
           cases hin : more.data.toList.contains c;
           · (rw [hin] at hci hx;
              have hlt0 : Lib.indexByte more.data.toList c < 0 := Int.not_le.1 (of_decide_eq_false hci.symm);
              have HX := Lib.hid hx;
              clear hci hx hin;
              go_wp2_with (go_at_call 119; (with_reducible refine (Tryz.strings_IndexByte more _ _).mono ?_); rintro e w' ⟨rfl, rfl⟩; rw [hback]);
              go_ret;
              exact ⟨by rw [HX.out]; rfl, rfl⟩)
           · (rw [hin] at hci hx;
              have hge : ¬ Lib.indexByte more.data.toList c < 0 := Int.not_lt.2 (of_decide_eq_true hci.symm);
              have HX := Lib.hid hx;
              clear hci hx hin;
              go_wp2_with (go_at_call 119; (with_reducible refine (Tryz.strings_IndexByte more _ _).mono ?_); rintro e w' ⟨rfl, rfl⟩; rw [hback]);
              go_roundw;
              case rel => exact ⟨k + 1, by omega, by go_num, Lib.hid (by rw [HX.out, Bool.true_and]), by first | rfl | trivial⟩;
              case measure => simp [intOf]; omega))
      · by_cases a3 : (65 : Int) ≤ (c.toNat : Int)
        · have a4 : (48 : Int) ≤ (c.toNat : Int) := by omega
          have a6 : ¬ (c.toNat : Int) ≤ 57 := by omega
          by_cases a2 : (c.toNat : Int) ≤ 90
          · skip
            (have HN := Lib.hid (HD.out.symm.trans (by rw [drop_get hcl, made_aln (by unfold alnI; simp; omega)]) : madeL more.data.toList s.data.toList = madeL more.data.toList (s.data.toList.drop (k + 1)));
             clear hcl HD;
             go_wp2;
             go_roundw;
             case rel => exact ⟨k + 1, by omega, by go_num, Lib.hid HN.out.symm, by first | rfl | trivial⟩;
             case measure => simp [intOf]; omega)
          · skip
            (have hne : ((c.toNat : Int) == 37) = false := beq_eq_false_iff_ne.2 (by omega);
             have hn37 : c ≠ 37 := by (rintro rfl; exact absurd hne (by decide));
             have hx := made_oth (M := more.data.toList) (r := s.data.toList.drop (k + 1)) (by unfold alnI; simp; omega : alnI c.toNat = false) hn37;
             have hback : ((c.toNat : Int)).toNat.toUInt8 = c := by simp;
             have hci := Lib.contains_iff_indexByte more.data.toList c;
             rw [← drop_get hcl, HD.out] at hx;
             clear hcl HD hn37;
             cases hin : more.data.toList.contains c;
             · (rw [hin] at hci hx;
                have hlt0 : Lib.indexByte more.data.toList c < 0 := Int.not_le.1 (of_decide_eq_false hci.symm);
                have HX := Lib.hid hx;
                clear hci hx hin;
                go_wp2_with (go_at_call 119; (with_reducible refine (Tryz.strings_IndexByte more _ _).mono ?_); rintro e w' ⟨rfl, rfl⟩; rw [hback]);
                go_ret;
                exact ⟨by rw [HX.out]; rfl, rfl⟩)
             · (rw [hin] at hci hx;
                have hge : ¬ Lib.indexByte more.data.toList c < 0 := Int.not_lt.2 (of_decide_eq_true hci.symm);
                have HX := Lib.hid hx;
                clear hci hx hin;
                go_wp2_with (go_at_call 119; (with_reducible refine (Tryz.strings_IndexByte more _ _).mono ?_); rintro e w' ⟨rfl, rfl⟩; rw [hback]);
                go_roundw;
                case rel => exact ⟨k + 1, by omega, by go_num, Lib.hid (by rw [HX.out, Bool.true_and]), by first | rfl | trivial⟩;
                case measure => simp [intOf]; omega))
        · by_cases a4 : (48 : Int) ≤ (c.toNat : Int)
          · by_cases a2 : (c.toNat : Int) ≤ 57
            · skip
              (have HN := Lib.hid (HD.out.symm.trans (by rw [drop_get hcl, made_aln (by unfold alnI; simp; omega)]) : madeL more.data.toList s.data.toList = madeL more.data.toList (s.data.toList.drop (k + 1)));
               clear hcl HD;
               go_wp2;
               go_roundw;
               case rel => exact ⟨k + 1, by omega, by go_num, Lib.hid HN.out.symm, by first | rfl | trivial⟩;
               case measure => simp [intOf]; omega)
            · skip
              (have hne : ((c.toNat : Int) == 37) = false := beq_eq_false_iff_ne.2 (by omega);
               have hn37 : c ≠ 37 := by (rintro rfl; exact absurd hne (by decide));
               have hx := made_oth (M := more.data.toList) (r := s.data.toList.drop (k + 1)) (by unfold alnI; simp; omega : alnI c.toNat = false) hn37;
               have hback : ((c.toNat : Int)).toNat.toUInt8 = c := by simp;
               have hci := Lib.contains_iff_indexByte more.data.toList c;
               rw [← drop_get hcl, HD.out] at hx;
               clear hcl HD hn37;
               cases hin : more.data.toList.contains c;
               · (rw [hin] at hci hx;
                  have hlt0 : Lib.indexByte more.data.toList c < 0 := Int.not_le.1 (of_decide_eq_false hci.symm);
                  have HX := Lib.hid hx;
                  clear hci hx hin;
                  go_wp2_with (go_at_call 119; (with_reducible refine (Tryz.strings_IndexByte more _ _).mono ?_); rintro e w' ⟨rfl, rfl⟩; rw [hback]);
                  go_ret;
                  exact ⟨by rw [HX.out]; rfl, rfl⟩)
               · (rw [hin] at hci hx;
                  have hge : ¬ Lib.indexByte more.data.toList c < 0 := Int.not_lt.2 (of_decide_eq_true hci.symm);
                  have HX := Lib.hid hx;
                  clear hci hx hin;
                  go_wp2_with (go_at_call 119; (with_reducible refine (Tryz.strings_IndexByte more _ _).mono ?_); rintro e w' ⟨rfl, rfl⟩; rw [hback]);
                  go_roundw;
                  case rel => exact ⟨k + 1, by omega, by go_num, Lib.hid (by rw [HX.out, Bool.true_and]), by first | rfl | trivial⟩;
                  case measure => simp [intOf]; omega))
          · by_cases a2 : c = 37
            · subst a2
              by_cases h3 : k + 2 < s.size
              · have g1 := toList_get s (k + 1) (by omega)
                have g2 := toList_get s (k + 2) h3
                obtain ⟨x, hx⟩ : ∃ x, s[k + 1]'(by omega) = x := ⟨_, rfl⟩
                obtain ⟨y, hy⟩ : ∃ y, s[k + 2]'h3 = y := ⟨_, rfl⟩
                rw [hx] at g1
                rw [hy] at g2
                have hp := made_pct (M := more.data.toList) (r := s.data.toList.drop (k + 3)) (a := x) (b := y)
                rw [show k + 3 = k + 2 + 1 from rfl, ← drop_get g2, ← drop_get g1, ← drop_get hcl, HD.out] at hp
                have hlt3 : ¬ (s.size : Int) ≤ (k : Int) + 2 := by omega
                clear hcl g1 g2
                cases q1 : hexI x.toNat
                · rw [q1] at hp
                  have HP := Lib.hid hp
                  clear hp
                  have HX : ∀ w, Calls Tryz.prog 102 #[.int .u8 x.toNat] w fun e w' => e = .returned (.bool false) ∧ w = w' := fun w => by rw [← q1]; exact hex_any _ w
                  clear q1
                  go_wp2_with (go_at_call 102; (with_reducible refine (HX _).mono ?_); rintro e w' ⟨rfl, rfl⟩)
                  go_ret
                  exact ⟨by rw [HP.out]; rfl, rfl⟩
                · have HX : ∀ w, Calls Tryz.prog 102 #[.int .u8 x.toNat] w fun e w' => e = .returned (.bool true) ∧ w = w' := fun w => by rw [← q1]; exact hex_any _ w
                  cases q2 : hexI y.toNat
                  · rw [q1, q2] at hp
                    have HP := Lib.hid hp
                    clear hp
                    have HY : ∀ w, Calls Tryz.prog 102 #[.int .u8 y.toNat] w fun e w' => e = .returned (.bool false) ∧ w = w' := fun w => by rw [← q2]; exact hex_any _ w
                    clear q1 q2
                    go_wp2_with (go_at_call 102; first | ((with_reducible refine (HX _).mono ?_); rintro e w' ⟨rfl, rfl⟩) | ((with_reducible refine (HY _).mono ?_); rintro e w' ⟨rfl, rfl⟩))
                    go_ret
                    exact ⟨by rw [HP.out]; rfl, rfl⟩
                  · rw [q1, q2] at hp
                    have HP := Lib.hid hp
                    clear hp
                    have HY : ∀ w, Calls Tryz.prog 102 #[.int .u8 y.toNat] w fun e w' => e = .returned (.bool true) ∧ w = w' := fun w => by rw [← q2]; exact hex_any _ w
                    clear q1 q2
                    go_wp2_with (go_at_call 102; first | ((with_reducible refine (HX _).mono ?_); rintro e w' ⟨rfl, rfl⟩) | ((with_reducible refine (HY _).mono ?_); rintro e w' ⟨rfl, rfl⟩))
                    go_roundw
                    case rel => exact ⟨k + 3, by omega, by go_num, Lib.hid (by rw [HP.out]; rfl), by first | rfl | trivial⟩
                    case measure => simp [intOf]; omega
              · have hp := made_pct1 (M := more.data.toList) (r := s.data.toList.drop (k + 1)) (by rw [List.length_drop, toList_len]; omega)
                rw [← drop_get hcl, HD.out] at hp
                have HP := Lib.hid hp
                have hge3 : (s.size : Int) ≤ (k : Int) + 2 := by omega
                clear hcl hp
                go_wp2
                go_ret
                exact ⟨by rw [HP.out]; rfl, rfl⟩
            · have hn : (c.toNat : Int) ≠ 37 := by
                intro h
                refine a2 (UInt8.toNat_inj.1 ?_)
                have : (37 : UInt8).toNat = 37 := rfl
                omega
              skip
              (have hne : ((c.toNat : Int) == 37) = false := beq_eq_false_iff_ne.2 (by omega);
               have hn37 : c ≠ 37 := by (rintro rfl; exact absurd hne (by decide));
               have hx := made_oth (M := more.data.toList) (r := s.data.toList.drop (k + 1)) (by unfold alnI; simp; omega : alnI c.toNat = false) hn37;
               have hback : ((c.toNat : Int)).toNat.toUInt8 = c := by simp;
               have hci := Lib.contains_iff_indexByte more.data.toList c;
               rw [← drop_get hcl, HD.out] at hx;
               clear hcl HD hn37;
               cases hin : more.data.toList.contains c;
               · (rw [hin] at hci hx;
                  have hlt0 : Lib.indexByte more.data.toList c < 0 := Int.not_le.1 (of_decide_eq_false hci.symm);
                  have HX := Lib.hid hx;
                  clear hci hx hin;
                  go_wp2_with (go_at_call 119; (with_reducible refine (Tryz.strings_IndexByte more _ _).mono ?_); rintro e w' ⟨rfl, rfl⟩; rw [hback]);
                  go_ret;
                  exact ⟨by rw [HX.out]; rfl, rfl⟩)
               · (rw [hin] at hci hx;
                  have hge : ¬ Lib.indexByte more.data.toList c < 0 := Int.not_lt.2 (of_decide_eq_true hci.symm);
                  have HX := Lib.hid hx;
                  clear hci hx hin;
                  go_wp2_with (go_at_call 119; (with_reducible refine (Tryz.strings_IndexByte more _ _).mono ?_); rintro e w' ⟨rfl, rfl⟩; rw [hback]);
                  go_roundw;
                  case rel => exact ⟨k + 1, by omega, by go_num, Lib.hid (by rw [HX.out, Bool.true_and]), by first | rfl | trivial⟩;
                  case measure => simp [intOf]; omega))
    · obtain rfl : k = s.size := by omega
      have HM := Lib.hid (HD.out.symm.trans (by rw [← toList_len, List.drop_length]; rfl) : madeL more.data.toList s.data.toList = true)
      go_wp2
      go_ret
      exact ⟨by rw [HM.out]; rfl, rfl⟩
end Go.Proofs.YtjndgkbikhndoaaGreatDoor
