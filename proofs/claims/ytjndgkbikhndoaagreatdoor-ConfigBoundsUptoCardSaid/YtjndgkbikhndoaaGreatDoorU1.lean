/- Layer 6, the reference: hex, in, made, last, digit, Digits. -/
import Derived.Test.YtjndgkbikhndoaaGreatDoorT5
namespace Go.Proofs.YtjndgkbikhndoaaGreatDoor
open Go.RowKit Go.ChangeShapes Go.WideShapes
set_option linter.unusedVariables false

theorem rhex_any (c : Int) (w : World) : Calls Tryz.prog 131 #[.int .u8 c] w fun e w' => e = .returned (.bool (hexI c)) ∧ w = w' := by
  by_cases a1 : 97 ≤ c
  · have a2 : (65 : Int) ≤ c := by omega
    have a3 : (48 : Int) ≤ c := by omega
    have a4 : ¬ c ≤ 57 := by omega
    have a5 : ¬ c ≤ 70 := by omega
    by_cases a6 : c ≤ 102
    · skip
      go_enter Tryz.func131, Tryz.ntmps131
      go_wp2
      go_ret
      exact ⟨by unfold hexI; congr 2; simp; omega, rfl⟩
    · skip
      go_enter Tryz.func131, Tryz.ntmps131
      go_wp2
      go_ret
      exact ⟨by unfold hexI; congr 2; simp; omega, rfl⟩
  · by_cases a2 : 65 ≤ c
    · have a3 : (48 : Int) ≤ c := by omega
      have a4 : ¬ c ≤ 57 := by omega
      by_cases a5 : c ≤ 70
      · skip
        go_enter Tryz.func131, Tryz.ntmps131
        go_wp2
        go_ret
        exact ⟨by unfold hexI; congr 2; simp; omega, rfl⟩
      · skip
        go_enter Tryz.func131, Tryz.ntmps131
        go_wp2
        go_ret
        exact ⟨by unfold hexI; congr 2; simp; omega, rfl⟩
    · by_cases a3 : 48 ≤ c
      · by_cases a4 : c ≤ 57
        · skip
          go_enter Tryz.func131, Tryz.ntmps131
          go_wp2
          go_ret
          exact ⟨by unfold hexI; congr 2; simp; omega, rfl⟩
        · skip
          go_enter Tryz.func131, Tryz.ntmps131
          go_wp2
          go_ret
          exact ⟨by unfold hexI; congr 2; simp; omega, rfl⟩
      · skip
        go_enter Tryz.func131, Tryz.ntmps131
        go_wp2
        go_ret
        exact ⟨by unfold hexI; congr 2; simp; omega, rfl⟩
set_option maxHeartbeats 4000000 in
set_option maxRecDepth 100000 in
theorem in_any (c : UInt8) (s : ByteArray) (w : World) (hs : s.size ≤ 1048576) (z : Bool) (hz : s.data.toList.contains c = z) : Calls Tryz.prog 144 #[.int .u8 c.toNat, .string s] w fun e w' => e = .returned (.bool z) ∧ w = w' := by
  have hz3 : (s.size : Int) ≤ 1048576 := by omega
  have HZ := Lib.hid hz
  clear hz
  go_enter Tryz.func144, Tryz.ntmps144
  go_wp2
  go_loopw [5] (fun i wr => ∃ k : Nat, k ≤ s.size ∧ i = .int .i64 k ∧ Hid (∀ (j : Nat) (d : UInt8), j < k → s.data.toList[j]? = some d → d ≠ c) ∧ wr = w) (fun i _ => s.size - (intOf i).toNat)
  case atStart => exact ⟨0, by omega, rfl, Lib.hid (fun j d h => absurd h (by omega)), rfl⟩
  case round =>
    obtain ⟨k, hk, rfl, HN, rfl⟩ := hrel
    by_cases hlt : k < s.size
    · have hlt2 : (k : Int) < (s.size : Int) := by omega
      have hcl := toList_get s k hlt
      obtain ⟨x, hx⟩ : ∃ x, s[k]'hlt = x := ⟨_, rfl⟩
      rw [hx] at hcl
      by_cases hxc : x = c
      · have hq : ((x.toNat : Int) == (c.toNat : Int)) = true := by rw [hxc]; exact beq_self_eq_true _
        have HR := Lib.hid (show z = true from by
          rw [← HZ.out, List.contains_iff_mem, ← hxc]
          exact List.mem_of_getElem? hcl)
        clear hcl hxc
        go_wp2
        go_ret
        exact ⟨by rw [HR.out]; rfl, rfl⟩
      · have hq : ((x.toNat : Int) == (c.toNat : Int)) = false := beq_eq_false_iff_ne.2 (fun e => hxc (UInt8.toNat_inj.1 (by omega)))
        have HN2 := Lib.hid (show ∀ (j : Nat) (d : UInt8), j < k + 1 → s.data.toList[j]? = some d → d ≠ c from fun j d hj hd => by
          rcases Nat.lt_or_ge j k with h1 | h1
          · exact HN.out j d h1 hd
          · obtain rfl : j = k := by omega
            rw [hcl] at hd
            injection hd with hd
            rw [← hd]
            exact hxc)
        clear hcl hxc HN
        go_wp2
        go_roundw
        case rel => exact ⟨k + 1, by omega, by go_num, HN2, by first | rfl | trivial⟩
        case measure => simp [intOf]; omega
    · obtain rfl : k = s.size := by omega
      have HR := Lib.hid (show z = false from by
        rw [← HZ.out, Bool.eq_false_iff]
        intro h
        rw [List.contains_iff_mem] at h
        obtain ⟨j, hj, e⟩ := List.getElem_of_mem h
        refine HN.out j c (by rw [← toList_len]; exact hj) ?_ rfl
        rw [List.getElem?_eq_getElem hj, e])
      go_wp2
      go_ret
      exact ⟨by rw [HR.out]; rfl, rfl⟩
set_option maxHeartbeats 4000000 in
set_option maxRecDepth 100000 in
theorem rmade_any (s more : ByteArray) (w : World) (hs : s.size ≤ 1048577) (hm : more.size ≤ 1048576) (h37 : more.data.toList.contains 37 = false) : Calls Tryz.prog 132 #[.string s, .string more] w fun e w' => e = .returned (.bool (madeL more.data.toList s.data.toList)) ∧ w = w' := by
  have hz3 : (s.size : Int) ≤ 1048577 := by omega
  go_enter Tryz.func132, Tryz.ntmps132
  go_wp2
  go_loopw [5] (fun i wr => ∃ k : Nat, k ≤ s.size ∧ i = .int .i64 k ∧ Hid (madeL more.data.toList (s.data.toList.drop k) = madeL more.data.toList s.data.toList) ∧ wr = w) (fun i _ => s.size - (intOf i).toNat)
  case atStart => exact ⟨0, by omega, rfl, Lib.hid rfl, rfl⟩
  case round =>
    obtain ⟨k, hk, rfl, HD, rfl⟩ := hrel
    by_cases hlt : k < s.size
    · have hlt2 : (k : Int) < (s.size : Int) := by omega
      have hcl := toList_get s k hlt
      obtain ⟨c, hc⟩ : ∃ c, s[k]'hlt = c := ⟨_, rfl⟩
      rw [hc] at hcl
      have hb : (c.toNat : Int) ≤ 255 := by have := c.toNat_lt; omega
      by_cases a1 : (97 : Int) ≤ (c.toNat : Int)
      · have a3 : (65 : Int) ≤ (c.toNat : Int) := by omega
        have a4 : (48 : Int) ≤ (c.toNat : Int) := by omega
        have a5 : ¬ (c.toNat : Int) ≤ 90 := by omega
        have a6 : ¬ (c.toNat : Int) ≤ 57 := by omega
        by_cases a2 : (c.toNat : Int) ≤ 122
        · skip
          (have HN := Lib.hid (HD.out.symm.trans (by rw [drop_get hcl, made_aln (by unfold alnI; simp; omega)]) : madeL more.data.toList s.data.toList = madeL more.data.toList (s.data.toList.drop (k + 1)));
           clear hcl HD;
           go_wp2;
           go_roundw;
           case rel => exact ⟨k + 1, by omega, by go_num, Lib.hid HN.out.symm, by first | rfl | trivial⟩;
           case measure => simp [intOf]; omega)
        · skip
          (have hne : ((c.toNat : Int) == 37) = false := beq_eq_false_iff_ne.2 (by omega);
           have hn37 : c ≠ 37 := by (rintro rfl; exact absurd hne (by decide));
           have hx := made_oth (M := more.data.toList) (r := s.data.toList.drop (k + 1)) (by unfold alnI; simp; omega : alnI c.toNat = false) hn37;
           rw [← drop_get hcl, HD.out] at hx;
           clear hcl HD hn37;
           cases hin : more.data.toList.contains c;
           · (rw [hin] at hx;
              have HI := Lib.hid (fun w => in_any c more w hm _ hin);
              have HX := Lib.hid hx;
              clear hx hin;
              go_wp2_with (go_at_call 144; (with_reducible refine (HI.out _).mono ?_); rintro e w' ⟨rfl, rfl⟩);
              go_ret;
              exact ⟨by rw [HX.out]; rfl, rfl⟩)
           · (rw [hin] at hx;
              have HI := Lib.hid (fun w => in_any c more w hm _ hin);
              have HX := Lib.hid hx;
              clear hx hin;
              go_wp2_with (go_at_call 144; (with_reducible refine (HI.out _).mono ?_); rintro e w' ⟨rfl, rfl⟩);
              go_roundw;
              case rel => exact ⟨k + 1, by omega, by go_num, Lib.hid (by rw [HX.out, Bool.true_and]), by first | rfl | trivial⟩;
              case measure => simp [intOf]; omega))
      · by_cases a3 : (65 : Int) ≤ (c.toNat : Int)
        · have a4 : (48 : Int) ≤ (c.toNat : Int) := by omega
          have a6 : ¬ (c.toNat : Int) ≤ 57 := by omega
          by_cases a2 : (c.toNat : Int) ≤ 90
          · skip
            (have HN := Lib.hid (HD.out.symm.trans (by rw [drop_get hcl, made_aln (by unfold alnI; simp; omega)]) : madeL more.data.toList s.data.toList = madeL more.data.toList (s.data.toList.drop (k + 1)));
             clear hcl HD;
             go_wp2;
             go_roundw;
             case rel => exact ⟨k + 1, by omega, by go_num, Lib.hid HN.out.symm, by first | rfl | trivial⟩;
             case measure => simp [intOf]; omega)
          · skip
            (have hne : ((c.toNat : Int) == 37) = false := beq_eq_false_iff_ne.2 (by omega);
             have hn37 : c ≠ 37 := by (rintro rfl; exact absurd hne (by decide));
             have hx := made_oth (M := more.data.toList) (r := s.data.toList.drop (k + 1)) (by unfold alnI; simp; omega : alnI c.toNat = false) hn37;
             rw [← drop_get hcl, HD.out] at hx;
             clear hcl HD hn37;
             cases hin : more.data.toList.contains c;
             · (rw [hin] at hx;
                have HI := Lib.hid (fun w => in_any c more w hm _ hin);
                have HX := Lib.hid hx;
                clear hx hin;
                go_wp2_with (go_at_call 144; (with_reducible refine (HI.out _).mono ?_); rintro e w' ⟨rfl, rfl⟩);
                go_ret;
                exact ⟨by rw [HX.out]; rfl, rfl⟩)
             · (rw [hin] at hx;
                have HI := Lib.hid (fun w => in_any c more w hm _ hin);
                have HX := Lib.hid hx;
                clear hx hin;
                go_wp2_with (go_at_call 144; (with_reducible refine (HI.out _).mono ?_); rintro e w' ⟨rfl, rfl⟩);
                go_roundw;
                case rel => exact ⟨k + 1, by omega, by go_num, Lib.hid (by rw [HX.out, Bool.true_and]), by first | rfl | trivial⟩;
                case measure => simp [intOf]; omega))
        · by_cases a4 : (48 : Int) ≤ (c.toNat : Int)
          · by_cases a2 : (c.toNat : Int) ≤ 57
            · skip
              (have HN := Lib.hid (HD.out.symm.trans (by rw [drop_get hcl, made_aln (by unfold alnI; simp; omega)]) : madeL more.data.toList s.data.toList = madeL more.data.toList (s.data.toList.drop (k + 1)));
               clear hcl HD;
               go_wp2;
               go_roundw;
               case rel => exact ⟨k + 1, by omega, by go_num, Lib.hid HN.out.symm, by first | rfl | trivial⟩;
               case measure => simp [intOf]; omega)
            · skip
              (have hne : ((c.toNat : Int) == 37) = false := beq_eq_false_iff_ne.2 (by omega);
               have hn37 : c ≠ 37 := by (rintro rfl; exact absurd hne (by decide));
               have hx := made_oth (M := more.data.toList) (r := s.data.toList.drop (k + 1)) (by unfold alnI; simp; omega : alnI c.toNat = false) hn37;
               rw [← drop_get hcl, HD.out] at hx;
               clear hcl HD hn37;
               cases hin : more.data.toList.contains c;
               · (rw [hin] at hx;
                  have HI := Lib.hid (fun w => in_any c more w hm _ hin);
                  have HX := Lib.hid hx;
                  clear hx hin;
                  go_wp2_with (go_at_call 144; (with_reducible refine (HI.out _).mono ?_); rintro e w' ⟨rfl, rfl⟩);
                  go_ret;
                  exact ⟨by rw [HX.out]; rfl, rfl⟩)
               · (rw [hin] at hx;
                  have HI := Lib.hid (fun w => in_any c more w hm _ hin);
                  have HX := Lib.hid hx;
                  clear hx hin;
                  go_wp2_with (go_at_call 144; (with_reducible refine (HI.out _).mono ?_); rintro e w' ⟨rfl, rfl⟩);
                  go_roundw;
                  case rel => exact ⟨k + 1, by omega, by go_num, Lib.hid (by rw [HX.out, Bool.true_and]), by first | rfl | trivial⟩;
                  case measure => simp [intOf]; omega))
          · by_cases a2 : c = 37
            · subst a2
              have HI : Hid (∀ w, Calls Tryz.prog 144 #[.int .u8 37, .string more] w fun e w' => e = .returned (.bool false) ∧ w = w') := Lib.hid (fun w => in_any 37 more w hm _ h37)
              by_cases h3 : k + 2 < s.size
              · have g1 := toList_get s (k + 1) (by omega)
                have g2 := toList_get s (k + 2) h3
                obtain ⟨x, hx⟩ : ∃ x, s[k + 1]'(by omega) = x := ⟨_, rfl⟩
                obtain ⟨y, hy⟩ : ∃ y, s[k + 2]'h3 = y := ⟨_, rfl⟩
                rw [hx] at g1
                rw [hy] at g2
                have hp := made_pct (M := more.data.toList) (r := s.data.toList.drop (k + 3)) (a := x) (b := y)
                rw [show k + 3 = k + 2 + 1 from rfl, ← drop_get g2, ← drop_get g1, ← drop_get hcl, HD.out] at hp
                have hlt3 : (k : Int) + 2 < (s.size : Int) := by omega
                clear hcl g1 g2
                cases q1 : hexI x.toNat
                · rw [q1] at hp
                  have HP := Lib.hid hp
                  clear hp
                  have HX : ∀ w, Calls Tryz.prog 131 #[.int .u8 x.toNat] w fun e w' => e = .returned (.bool false) ∧ w = w' := fun w => by rw [← q1]; exact rhex_any _ w
                  clear q1
                  go_wp2_with (first | (go_at_call 144; (with_reducible refine (HI.out _).mono ?_); rintro e w' ⟨rfl, rfl⟩) | (go_at_call 131; (with_reducible refine (HX _).mono ?_); rintro e w' ⟨rfl, rfl⟩))
                  go_ret
                  exact ⟨by rw [HP.out]; rfl, rfl⟩
                · have HX : ∀ w, Calls Tryz.prog 131 #[.int .u8 x.toNat] w fun e w' => e = .returned (.bool true) ∧ w = w' := fun w => by rw [← q1]; exact rhex_any _ w
                  cases q2 : hexI y.toNat
                  · rw [q1, q2] at hp
                    have HP := Lib.hid hp
                    clear hp
                    have HY : ∀ w, Calls Tryz.prog 131 #[.int .u8 y.toNat] w fun e w' => e = .returned (.bool false) ∧ w = w' := fun w => by rw [← q2]; exact rhex_any _ w
                    clear q1 q2
                    go_wp2_with (first | (go_at_call 144; (with_reducible refine (HI.out _).mono ?_); rintro e w' ⟨rfl, rfl⟩) | (go_at_call 131; first | ((with_reducible refine (HX _).mono ?_); rintro e w' ⟨rfl, rfl⟩) | ((with_reducible refine (HY _).mono ?_); rintro e w' ⟨rfl, rfl⟩)))
                    go_ret
                    exact ⟨by rw [HP.out]; rfl, rfl⟩
                  · rw [q1, q2] at hp
                    have HP := Lib.hid hp
                    clear hp
                    have HY : ∀ w, Calls Tryz.prog 131 #[.int .u8 y.toNat] w fun e w' => e = .returned (.bool true) ∧ w = w' := fun w => by rw [← q2]; exact rhex_any _ w
                    clear q1 q2
                    go_wp2_with (first | (go_at_call 144; (with_reducible refine (HI.out _).mono ?_); rintro e w' ⟨rfl, rfl⟩) | (go_at_call 131; first | ((with_reducible refine (HX _).mono ?_); rintro e w' ⟨rfl, rfl⟩) | ((with_reducible refine (HY _).mono ?_); rintro e w' ⟨rfl, rfl⟩)))
                    go_roundw
                    case rel => exact ⟨k + 3, by omega, by go_num, Lib.hid (by rw [HP.out]; rfl), by first | rfl | trivial⟩
                    case measure => simp [intOf]; omega
              · have hp := made_pct1 (M := more.data.toList) (r := s.data.toList.drop (k + 1)) (by rw [List.length_drop, toList_len]; omega)
                rw [← drop_get hcl, HD.out] at hp
                have HP := Lib.hid hp
                have hge3 : ¬ (k : Int) + 2 < (s.size : Int) := by omega
                clear hcl hp
                go_wp2_with (go_at_call 144; (with_reducible refine (HI.out _).mono ?_); rintro e w' ⟨rfl, rfl⟩)
                go_ret
                exact ⟨by rw [HP.out]; rfl, rfl⟩
            · have hn : (c.toNat : Int) ≠ 37 := by
                intro h
                refine a2 (UInt8.toNat_inj.1 ?_)
                have : (37 : UInt8).toNat = 37 := rfl
                omega
              skip
              (have hne : ((c.toNat : Int) == 37) = false := beq_eq_false_iff_ne.2 (by omega);
               have hn37 : c ≠ 37 := by (rintro rfl; exact absurd hne (by decide));
               have hx := made_oth (M := more.data.toList) (r := s.data.toList.drop (k + 1)) (by unfold alnI; simp; omega : alnI c.toNat = false) hn37;
               rw [← drop_get hcl, HD.out] at hx;
               clear hcl HD hn37;
               cases hin : more.data.toList.contains c;
               · (rw [hin] at hx;
                  have HI := Lib.hid (fun w => in_any c more w hm _ hin);
                  have HX := Lib.hid hx;
                  clear hx hin;
                  go_wp2_with (go_at_call 144; (with_reducible refine (HI.out _).mono ?_); rintro e w' ⟨rfl, rfl⟩);
                  go_ret;
                  exact ⟨by rw [HX.out]; rfl, rfl⟩)
               · (rw [hin] at hx;
                  have HI := Lib.hid (fun w => in_any c more w hm _ hin);
                  have HX := Lib.hid hx;
                  clear hx hin;
                  go_wp2_with (go_at_call 144; (with_reducible refine (HI.out _).mono ?_); rintro e w' ⟨rfl, rfl⟩);
                  go_roundw;
                  case rel => exact ⟨k + 1, by omega, by go_num, Lib.hid (by rw [HX.out, Bool.true_and]), by first | rfl | trivial⟩;
                  case measure => simp [intOf]; omega))
    · obtain rfl : k = s.size := by omega
      have HM := Lib.hid (HD.out.symm.trans (by rw [← toList_len, List.drop_length]; rfl) : madeL more.data.toList s.data.toList = true)
      go_wp2
      go_ret
      exact ⟨by rw [HM.out]; rfl, rfl⟩
end Go.Proofs.YtjndgkbikhndoaaGreatDoor
