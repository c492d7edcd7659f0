/- Layer 6, the reference: Host, Parse. -/
import Derived.Test.YtjndgkbikhndoaaGreatDoorM1
import Derived.Maps.AppendAt
import Derived.Deep.RegionHeld3
import Derived.Deep.DeepCutAuto
import Derived.Test.YtjndgkbikhndoaaGreatDoorM2
namespace Go.Proofs.YtjndgkbikhndoaaGreatDoor
open Go.RowKit Go.ChangeShapes Go.WideShapes
set_option linter.unusedVariables false

theorem rhex_any (c : Int) (w : World) : Calls Tryz.prog 131 #[.int .u8 c] w fun e w' => e = .returned (.bool (hexI c)) ∧ w = w' := by
  by_cases a1 : 97 ≤ c
  · have a2 : (65 : Int) ≤ c := by omega
    have a3 : (48 : Int) ≤ c := by omega
    have a4 : ¬ c ≤ 57 := by omega
    have a5 : ¬ c ≤ 70 := by omega
    by_cases a6 : c ≤ 102
    · skip
      go_enter Tryz.func131, Tryz.ntmps131
      go_wp2
      go_ret
      exact ⟨by unfold hexI; congr 2; simp; omega, rfl⟩
    · skip
      go_enter Tryz.func131, Tryz.ntmps131
      go_wp2
      go_ret
      exact ⟨by unfold hexI; congr 2; simp; omega, rfl⟩
  · by_cases a2 : 65 ≤ c
    · have a3 : (48 : Int) ≤ c := by omega
      have a4 : ¬ c ≤ 57 := by omega
      by_cases a5 : c ≤ 70
      · skip
        go_enter Tryz.func131, Tryz.ntmps131
        go_wp2
        go_ret
        exact ⟨by unfold hexI; congr 2; simp; omega, rfl⟩
      · skip
        go_enter Tryz.func131, Tryz.ntmps131
        go_wp2
        go_ret
        exact ⟨by unfold hexI; congr 2; simp; omega, rfl⟩
    · by_cases a3 : 48 ≤ c
      · by_cases a4 : c ≤ 57
        · skip
          go_enter Tryz.func131, Tryz.ntmps131
          go_wp2
          go_ret
          exact ⟨by unfold hexI; congr 2; simp; omega, rfl⟩
        · skip
          go_enter Tryz.func131, Tryz.ntmps131
          go_wp2
          go_ret
          exact ⟨by unfold hexI; congr 2; simp; omega, rfl⟩
      · skip
        go_enter Tryz.func131, Tryz.ntmps131
        go_wp2
        go_ret
        exact ⟨by unfold hexI; congr 2; simp; omega, rfl⟩
set_option maxHeartbeats 4000000 in
set_option maxRecDepth 100000 in
theorem in_any (c : UInt8) (s : ByteArray) (w : World) (hs : s.size ≤ 1048576) (z : Bool) (hz : s.data.toList.contains c = z) : Calls Tryz.prog 144 #[.int .u8 c.toNat, .string s] w fun e w' => e = .returned (.bool z) ∧ w = w' := by
  have hz3 : (s.size : Int) ≤ 1048576 := by omega
  have HZ := Lib.hid hz
  clear hz
  go_enter Tryz.func144, Tryz.ntmps144
  go_wp2
  go_loopw [5] (fun i wr => ∃ k : Nat, k ≤ s.size ∧ i = .int .i64 k ∧ Hid (∀ (j : Nat) (d : UInt8), j < k → s.data.toList[j]? = some d → d ≠ c) ∧ wr = w) (fun i _ => s.size - (intOf i).toNat)
  case atStart => exact ⟨0, by omega, rfl, Lib.hid (fun j d h => absurd h (by omega)), rfl⟩
  case round =>
    obtain ⟨k, hk, rfl, HN, rfl⟩ := hrel
    by_cases hlt : k < s.size
    · have hlt2 : (k : Int) < (s.size : Int) := by omega
      have hcl := toList_get s k hlt
      obtain ⟨x, hx⟩ : ∃ x, s[k]'hlt = x := ⟨_, rfl⟩
      rw [hx] at hcl
      by_cases hxc : x = c
      · have hq : ((x.toNat : Int) == (c.toNat : Int)) = true := by rw [hxc]; exact beq_self_eq_true _
        have HR := Lib.hid (show z = true from by
          rw [← HZ.out, List.contains_iff_mem, ← hxc]
          exact List.mem_of_getElem? hcl)
        clear hcl hxc
        go_wp2
        go_ret
        exact ⟨by rw [HR.out]; rfl, rfl⟩
      · have hq : ((x.toNat : Int) == (c.toNat : Int)) = false := beq_eq_false_iff_ne.2 (fun e => hxc (UInt8.toNat_inj.1 (by omega)))
        have HN2 := Lib.hid (show ∀ (j : Nat) (d : UInt8), j < k + 1 → s.data.toList[j]? = some d → d ≠ c from fun j d hj hd => by
          rcases Nat.lt_or_ge j k with h1 | h1
          · exact HN.out j d h1 hd
          · obtain rfl : j = k := by omega
            rw [hcl] at hd
            injection hd with hd
            rw [← hd]
            exact hxc)
        clear hcl hxc HN
        go_wp2
        go_roundw
        case rel => exact ⟨k + 1, by omega, by go_num, HN2, by first | rfl | trivial⟩
        case measure => simp [intOf]; omega
    · obtain rfl : k = s.size := by omega
      have HR := Lib.hid (show z = false from by
        rw [← HZ.out, Bool.eq_false_iff]
        intro h
        rw [List.contains_iff_mem] at h
        obtain ⟨j, hj, e⟩ := List.getElem_of_mem h
        refine HN.out j c (by rw [← toList_len]; exact hj) ?_ rfl
        rw [List.getElem?_eq_getElem hj, e])
      go_wp2
      go_ret
      exact ⟨by rw [HR.out]; rfl, rfl⟩
set_option maxHeartbeats 4000000 in
set_option maxRecDepth 100000 in
theorem rmade_any (s more : ByteArray) (w : World) (hs : s.size ≤ 1048577) (hm : more.size ≤ 1048576) (h37 : more.data.toList.contains 37 = false) : Calls Tryz.prog 132 #[.string s, .string more] w fun e w' => e = .returned (.bool (madeL more.data.toList s.data.toList)) ∧ w = w' := by
  have hz3 : (s.size : Int) ≤ 1048577 := by omega
  go_enter Tryz.func132, Tryz.ntmps132
  go_wp2
  go_loopw [5] (fun i wr => ∃ k : Nat, k ≤ s.size ∧ i = .int .i64 k ∧ Hid (madeL more.data.toList (s.data.toList.drop k) = madeL more.data.toList s.data.toList) ∧ wr = w) (fun i _ => s.size - (intOf i).toNat)
  case atStart => exact ⟨0, by omega, rfl, Lib.hid rfl, rfl⟩
  case round =>
    obtain ⟨k, hk, rfl, HD, rfl⟩ := hrel
    by_cases hlt : k < s.size
    · have hlt2 : (k : Int) < (s.size : Int) := by omega
      have hcl := toList_get s k hlt
      obtain ⟨c, hc⟩ : ∃ c, s[k]'hlt = c := ⟨_, rfl⟩
      rw [hc] at hcl
      have hb : (c.toNat : Int) ≤ 255 := by have := c.toNat_lt; omega
      by_cases a1 : (97 : Int) ≤ (c.toNat : Int)
      · have a3 : (65 : Int) ≤ (c.toNat : Int) := by omega
        have a4 : (48 : Int) ≤ (c.toNat : Int) := by omega
        have a5 : ¬ (c.toNat : Int) ≤ 90 := by omega
        have a6 : ¬ (c.toNat : Int) ≤ 57 := by omega
        by_cases a2 : (c.toNat : Int) ≤ 122
        · skip
          (have HN := Lib.hid (HD.out.symm.trans (by rw [drop_get hcl, made_aln (by unfold alnI; simp; omega)]) : madeL more.data.toList s.data.toList = madeL more.data.toList (s.data.toList.drop (k + 1)));
           clear hcl HD;
           go_wp2;
           go_roundw;
           case rel => exact ⟨k + 1, by omega, by go_num, Lib.hid HN.out.symm, by first | rfl | trivial⟩;
           case measure => simp [intOf]; omega)
        · skip
          (have hne : ((c.toNat : Int) == 37) = false := beq_eq_false_iff_ne.2 (by omega);
           have hn37 : c ≠ 37 := by (rintro rfl; exact absurd hne (by decide));
           have hx := made_oth (M := more.data.toList) (r := s.data.toList.drop (k + 1)) (by unfold alnI; simp; omega : alnI c.toNat = false) hn37;
           rw [← drop_get hcl, HD.out] at hx;
           clear hcl HD hn37;
           cases hin : more.data.toList.contains c;
           · (rw [hin] at hx;
              have HI := Lib.hid (fun w => in_any c more w hm _ hin);
              have HX := Lib.hid hx;
              clear hx hin;
              go_wp2_with (go_at_call 144; (with_reducible refine (HI.out _).mono ?_); rintro e w' ⟨rfl, rfl⟩);
              go_ret;
              exact ⟨by rw [HX.out]; rfl, rfl⟩)
           · (rw [hin] at hx;
              have HI := Lib.hid (fun w => in_any c more w hm _ hin);
              have HX := Lib.hid hx;
              clear hx hin;
              go_wp2_with (go_at_call 144; (with_reducible refine (HI.out _).mono ?_); rintro e w' ⟨rfl, rfl⟩);
              go_roundw;
              case rel => exact ⟨k + 1, by omega, by go_num, Lib.hid (by rw [HX.out, Bool.true_and]), by first | rfl | trivial⟩;
              case measure => simp [intOf]; omega))
      · by_cases a3 : (65 : Int) ≤ (c.toNat : Int)
        · have a4 : (48 : Int) ≤ (c.toNat : Int) := by omega
          have a6 : ¬ (c.toNat : Int) ≤ 57 := by omega
          by_cases a2 : (c.toNat : Int) ≤ 90
          · skip
            (have HN := Lib.hid (HD.out.symm.trans (by rw [drop_get hcl, made_aln (by unfold alnI; simp; omega)]) : madeL more.data.toList s.data.toList = madeL more.data.toList (s.data.toList.drop (k + 1)));
             clear hcl HD;
             go_wp2;
             go_roundw;
             case rel => exact ⟨k + 1, by omega, by go_num, Lib.hid HN.out.symm, by first | rfl | trivial⟩;
             case measure => simp [intOf]; omega)
          · skip
            (have hne : ((c.toNat : Int) == 37) = false := beq_eq_false_iff_ne.2 (by omega);
             have hn37 : c ≠ 37 := by (rintro rfl; exact absurd hne (by decide));
             have hx := made_oth (M := more.data.toList) (r := s.data.toList.drop (k + 1)) (by unfold alnI; simp; omega : alnI c.toNat = false) hn37;
             rw [← drop_get hcl, HD.out] at hx;
             clear hcl HD hn37;
             cases hin : more.data.toList.contains c;
             · (rw [hin] at hx;
                have HI := Lib.hid (fun w => in_any c more w hm _ hin);
                have HX := Lib.hid hx;
                clear hx hin;
                go_wp2_with (go_at_call 144; (with_reducible refine (HI.out _).mono ?_); rintro e w' ⟨rfl, rfl⟩);
                go_ret;
                exact ⟨by rw [HX.out]; rfl, rfl⟩)
             · (rw [hin] at hx;
                have HI := Lib.hid (fun w => in_any c more w hm _ hin);
                have HX := Lib.hid hx;
                clear hx hin;
                go_wp2_with (go_at_call 144; (with_reducible refine (HI.out _).mono ?_); rintro e w' ⟨rfl, rfl⟩);
                go_roundw;
                case rel => exact ⟨k + 1, by omega, by go_num, Lib.hid (by rw [HX.out, Bool.true_and]), by first | rfl | trivial⟩;
                case measure => simp [intOf]; omega))
        · by_cases a4 : (48 : Int) ≤ (c.toNat : Int)
          · by_cases a2 : (c.toNat : Int) ≤ 57
            · skip
              (have HN := Lib.hid (HD.out.symm.trans (by rw [drop_get hcl, made_aln (by unfold alnI; simp; omega)]) : madeL more.data.toList s.data.toList = madeL more.data.toList (s.data.toList.drop (k + 1)));
               clear hcl HD;
               go_wp2;
               go_roundw;
               case rel => exact ⟨k + 1, by omega, by go_num, Lib.hid HN.out.symm, by first | rfl | trivial⟩;
               case measure => simp [intOf]; omega)
            · skip
              (have hne : ((c.toNat : Int) == 37) = false := beq_eq_false_iff_ne.2 (by omega);
               have hn37 : c ≠ 37 := by (rintro rfl; exact absurd hne (by decide));
               have hx := made_oth (M := more.data.toList) (r := s.data.toList.drop (k + 1)) (by unfold alnI; simp; omega : alnI c.toNat = false) hn37;
               rw [← drop_get hcl, HD.out] at hx;
               clear hcl HD hn37;
               cases hin : more.data.toList.contains c;
               · (rw [hin] at hx;
                  have HI := Lib.hid (fun w => in_any c more w hm _ hin);
                  have HX := Lib.hid hx;
                  clear hx hin;
                  go_wp2_with (go_at_call 144; (with_reducible refine (HI.out _).mono ?_); rintro e w' ⟨rfl, rfl⟩);
                  go_ret;
                  exact ⟨by rw [HX.out]; rfl, rfl⟩)
               · (rw [hin] at hx;
                  have HI := Lib.hid (fun w => in_any c more w hm _ hin);
                  have HX := Lib.hid hx;
                  clear hx hin;
                  go_wp2_with (go_at_call 144; (with_reducible refine (HI.out _).mono ?_); rintro e w' ⟨rfl, rfl⟩);
                  go_roundw;
                  case rel => exact ⟨k + 1, by omega, by go_num, Lib.hid (by rw [HX.out, Bool.true_and]), by first | rfl | trivial⟩;
                  case measure => simp [intOf]; omega))
          · by_cases a2 : c = 37
            · subst a2
              have HI : Hid (∀ w, Calls Tryz.prog 144 #[.int .u8 37, .string more] w fun e w' => e = .returned (.bool false) ∧ w = w') := Lib.hid (fun w => in_any 37 more w hm _ h37)
              by_cases h3 : k + 2 < s.size
              · have g1 := toList_get s (k + 1) (by omega)
                have g2 := toList_get s (k + 2) h3
                obtain ⟨x, hx⟩ : ∃ x, s[k + 1]'(by omega) = x := ⟨_, rfl⟩
                obtain ⟨y, hy⟩ : ∃ y, s[k + 2]'h3 = y := ⟨_, rfl⟩
                rw [hx] at g1
                rw [hy] at g2
                have hp := made_pct (M := more.data.toList) (r := s.data.toList.drop (k + 3)) (a := x) (b := y)
                rw [show k + 3 = k + 2 + 1 from rfl, ← drop_get g2, ← drop_get g1, ← drop_get hcl, HD.out] at hp
                have hlt3 : (k : Int) + 2 < (s.size : Int) := by omega
                clear hcl g1 g2
                cases q1 : hexI x.toNat
                · rw [q1] at hp
                  have HP := Lib.hid hp
                  clear hp
                  have HX : ∀ w, Calls Tryz.prog 131 #[.int .u8 x.toNat] w fun e w' => e = .returned (.bool false) ∧ w = w' := fun w => by rw [← q1]; exact rhex_any _ w
                  clear q1
                  go_wp2_with (first | (go_at_call 144; (with_reducible refine (HI.out _).mono ?_); rintro e w' ⟨rfl, rfl⟩) | (go_at_call 131; (with_reducible refine (HX _).mono ?_); rintro e w' ⟨rfl, rfl⟩))
                  go_ret
                  exact ⟨by rw [HP.out]; rfl, rfl⟩
                · have HX : ∀ w, Calls Tryz.prog 131 #[.int .u8 x.toNat] w fun e w' => e = .returned (.bool true) ∧ w = w' := fun w => by rw [← q1]; exact rhex_any _ w
                  cases q2 : hexI y.toNat
                  · rw [q1, q2] at hp
                    have HP := Lib.hid hp
                    clear hp
                    have HY : ∀ w, Calls Tryz.prog 131 #[.int .u8 y.toNat] w fun e w' => e = .returned (.bool false) ∧ w = w' := fun w => by rw [← q2]; exact rhex_any _ w
                    clear q1 q2
                    go_wp2_with (first | (go_at_call 144; (with_reducible refine (HI.out _).mono ?_); rintro e w' ⟨rfl, rfl⟩) | (go_at_call 131; first | ((with_reducible refine (HX _).mono ?_); rintro e w' ⟨rfl, rfl⟩) | ((with_reducible refine (HY _).mono ?_); rintro e w' ⟨rfl, rfl⟩)))
                    go_ret
                    exact ⟨by rw [HP.out]; rfl, rfl⟩
                  · rw [q1, q2] at hp
                    have HP := Lib.hid hp
                    clear hp
                    have HY : ∀ w, Calls Tryz.prog 131 #[.int .u8 y.toNat] w fun e w' => e = .returned (.bool true) ∧ w = w' := fun w => by rw [← q2]; exact rhex_any _ w
                    clear q1 q2
                    go_wp2_with (first | (go_at_call 144; (with_reducible refine (HI.out _).mono ?_); rintro e w' ⟨rfl, rfl⟩) | (go_at_call 131; first | ((with_reducible refine (HX _).mono ?_); rintro e w' ⟨rfl, rfl⟩) | ((with_reducible refine (HY _).mono ?_); rintro e w' ⟨rfl, rfl⟩)))
                    go_roundw
                    case rel => exact ⟨k + 3, by omega, by go_num, Lib.hid (by rw [HP.out]; rfl), by first | rfl | trivial⟩
                    case measure => simp [intOf]; omega
              · have hp := made_pct1 (M := more.data.toList) (r := s.data.toList.drop (k + 1)) (by rw [List.length_drop, toList_len]; omega)
                rw [← drop_get hcl, HD.out] at hp
                have HP := Lib.hid hp
                have hge3 : ¬ (k : Int) + 2 < (s.size : Int) := by omega
                clear hcl hp
                go_wp2_with (go_at_call 144; (with_reducible refine (HI.out _).mono ?_); rintro e w' ⟨rfl, rfl⟩)
                go_ret
                exact ⟨by rw [HP.out]; rfl, rfl⟩
            · have hn : (c.toNat : Int) ≠ 37 := by
                intro h
                refine a2 (UInt8.toNat_inj.1 ?_)
                have : (37 : UInt8).toNat = 37 := rfl
                omega
              skip
              (have hne : ((c.toNat : Int) == 37) = false := beq_eq_false_iff_ne.2 (by omega);
               have hn37 : c ≠ 37 := by (rintro rfl; exact absurd hne (by decide));
               have hx := made_oth (M := more.data.toList) (r := s.data.toList.drop (k + 1)) (by unfold alnI; simp; omega : alnI c.toNat = false) hn37;
               rw [← drop_get hcl, HD.out] at hx;
               clear hcl HD hn37;
               cases hin : more.data.toList.contains c;
               · (rw [hin] at hx;
                  have HI := Lib.hid (fun w => in_any c more w hm _ hin);
                  have HX := Lib.hid hx;
                  clear hx hin;
                  go_wp2_with (go_at_call 144; (with_reducible refine (HI.out _).mono ?_); rintro e w' ⟨rfl, rfl⟩);
                  go_ret;
                  exact ⟨by rw [HX.out]; rfl, rfl⟩)
               · (rw [hin] at hx;
                  have HI := Lib.hid (fun w => in_any c more w hm _ hin);
                  have HX := Lib.hid hx;
                  clear hx hin;
                  go_wp2_with (go_at_call 144; (with_reducible refine (HI.out _).mono ?_); rintro e w' ⟨rfl, rfl⟩);
                  go_roundw;
                  case rel => exact ⟨k + 1, by omega, by go_num, Lib.hid (by rw [HX.out, Bool.true_and]), by first | rfl | trivial⟩;
                  case measure => simp [intOf]; omega))
    · obtain rfl : k = s.size := by omega
      have HM := Lib.hid (HD.out.symm.trans (by rw [← toList_len, List.drop_length]; rfl) : madeL more.data.toList s.data.toList = true)
      go_wp2
      go_ret
      exact ⟨by rw [HM.out]; rfl, rfl⟩
end Go.Proofs.YtjndgkbikhndoaaGreatDoor

namespace Go.Proofs.YtjndgkbikhndoaaGreatDoor
open Go.RowKit Go.ChangeShapes Go.WideShapes
set_option linter.unusedVariables false

/-- A slice of bytes that the call makes itself. -/
def Own8 (w : World) (v : Value) (l : List UInt8) : Prop := w.ownsRow 0 5 1 v l.length (u8s l)
theorem Own8.nil (w : World) : Own8 w (.slice none 0 0) [] := World.ownsRow_nil _ _ _ _
theorem Own8.form {w : World} {v : Value} {l : List UInt8} (h : Own8 w v l) : ∃ A cap, v = .slice A l.length cap := by
  rcases h.2 with ⟨rfl, h0⟩ | ⟨g, cap, cur, rfl, _⟩
  · exact ⟨none, 0, by rw [h0]⟩
  · exact ⟨_, cap, rfl⟩
theorem own8_push {w : World} {v : Value} {l : List UInt8} {c : UInt8} (h : w.ownsRow 0 5 1 v (l.length + 1) (u8s l ++ [.int .u8 (c.toNat : Int)])) : Own8 w v (l ++ [c]) := by
  unfold Own8 u8s
  unfold u8s at h
  simpa using h
theorem Own8.cell {w : World} {v : Value} {l : List UInt8} (h : Own8 w v l) (hl : 0 < l.length) : ∃ g cap, v = .slice (some ⟨g, 0, none⟩) l.length cap ∧ ∀ j (hj : j < l.length), w.cell? ⟨g, j, none⟩ = some (.int .u8 (l[j].toNat : Int)) := by
  rcases h.2 with ⟨rfl, h0⟩ | ⟨g, cap, cur, rfl, hb, hh, h1, h2, h3, h4⟩
  · omega
  · refine ⟨g, cap, rfl, fun j hj => ?_⟩
    have hi' : (cur.toList.take (l.length * 1))[j]? = some (.int .u8 (l[j].toNat : Int)) := by
      rw [h4]
      unfold u8s
      rw [List.getElem?_map, List.getElem?_eq_getElem hj]
      rfl
    rw [List.getElem?_take] at hi'
    split at hi'
    · simp only [World.cell?, hh]
      simpa using hi'
    · cases hi'
theorem info5 : (Tryz.prog.info? 5).map (fun i => (i.zero, i.size, i.bytes)) = some (some (.int .u8 0), 1, 1) := by kernel_rfl
set_option maxHeartbeats 4000000 in
set_option maxRecDepth 100000 in
theorem rlower_any (s : ByteArray) (w : World) (hs : s.size ≤ 1048576) :
    Calls Tryz.prog 107 #[.string s] w fun e w' => e = .returned (.string ⟨(s.data.toList.map lowB).toArray⟩) ∧ Hid (Chg [] w w') := by
  have HSZ := Lib.hid (show s.size = s.data.toList.length by
    show s.data.size = _
    rw [Array.length_toList])
  obtain ⟨i0, hi, hz0, hz1, hz2⟩ := info_parts info5
  have HI := Lib.hid (And.intro hi (And.intro hz0 (And.intro hz1 hz2)))
  have hz3 : (s.size : Int) ≤ 1048576 := by omega
  clear hi hz0 hz1 hz2
  go_enter Tryz.func107, Tryz.ntmps107
  go_wp2
  go_loopw [3, 4] (fun v i wr => ∃ k : Nat, k ≤ s.size ∧ i = .int .i64 k ∧ Hid (Own8 wr v ((s.data.toList.take k).map lowB)) ∧ Hid (∀ q, v.ownBlock = some q → w.heap.size ≤ q) ∧ Hid (Chg [] w wr)) (fun _ i _ => s.size - (intOf i).toNat)
  case atStart => exact ⟨0, by omega, rfl, Own8.nil _, Lib.hid (by simp [Value.ownBlock]), Chg.refl _ _⟩
  case round =>
    obtain ⟨k, hk, rfl, HO, HF, HC⟩ := hrel
    by_cases hlt : k < s.size
    · have hlt2 : (k : Int) < (s.size : Int) := by omega
      go_upto_region 6 with fail
      have hcl : s.data.toList[k]? = some (s[k]'hlt) := by
        rw [List.getElem?_eq_getElem (by rw [← HSZ.out]; exact hlt)]
        rfl
      generalize s[k]'hlt = c at hcl ⊢
      have htk : (s.data.toList.take (k + 1)).map lowB = (s.data.toList.take k).map lowB ++ [lowB c] := by
        rw [List.take_add_one, hcl, List.map_append]
        rfl
      have HTK := Lib.hid htk
      have hlen : ((s.data.toList.take k).map lowB).length ≤ 1048576 := by
        rw [List.length_map, List.length_take]
        omega
      have hb : (c.toNat : Int) ≤ 255 := by have := c.toNat_lt; omega
      have hb0 : (0 : Int) ≤ (c.toNat : Int) := by omega
      have hx : (65 ≤ c.toNat ∧ c.toNat ≤ 90 ∧ ((lowB c).toNat : Int) = (c.toNat : Int) - 65 + 97) ∨ (¬ (65 : Int) ≤ (c.toNat : Int) ∧ lowB c = c) ∨ ((65 : Int) ≤ (c.toNat : Int) ∧ ¬ (c.toNat : Int) ≤ 90 ∧ lowB c = c) := by
        by_cases h1 : 65 ≤ c.toNat ∧ c.toNat ≤ 90
        · refine .inl ⟨h1.1, h1.2, ?_⟩
          unfold lowB
          rw [if_pos h1, UInt8.toNat_add]
          have : (32 : UInt8).toNat = 32 := rfl
          rw [this]
          omega
        · have : lowB c = c := by unfold lowB; rw [if_neg h1]
          by_cases h2 : (65 : Int) ≤ (c.toNat : Int)
          · exact .inr (.inr ⟨h2, by omega, this⟩)
          · exact .inr (.inl ⟨h2, this⟩)
      clear hcl htk
      obtain ⟨A, cp, rfl⟩ := HO.out.form
      rcases hx with ⟨h1, h2, h3⟩ | ⟨h1, h3⟩ | ⟨h1, h2, h3⟩
      · have a1 : (65 : Int) ≤ (c.toNat : Int) := by omega
        have a2 : (c.toNat : Int) ≤ 90 := by omega
        have HL := Lib.hid h3
        clear h1 h2 h3
        generalize (c.toNat : Int) = x at *
        go_wp2_with (at_builtin; refine wpList_append_own_at _ rfl _ _ 100 rfl 0 5 i0 (.int .u8 0) 1 1 Tryz.underlying100 HI.out.1 HI.out.2.1 HI.out.2.2.1 HI.out.2.2.2 rfl (by decide) (.slice A ((s.data.toList.take k).map lowB).length cp) ((s.data.toList.take k).map lowB).length (u8s ((s.data.toList.take k).map lowB)) rfl (HO.out.alloc _) ⟨wr.heap.size, 0, none⟩ 1 1 [.int .u8 (x - 65 + 97)] rfl rfl (cell_one_new _ _ _) (by simp [Value.oneCell']) (by unfold maxLen; omega) (by omega) (Nat.zero_le _) ?_; intro v5 w5 hown hgrow _ hat)
        have hc5 : Chg (Value.slice A ((s.data.toList.take k).map lowB).length cp).ownBlock.toList wr w5 := ((Chg.refl _ wr).alloc _).grown hgrow (by intro i hi _; rw [hi]; simp)
        have hsz : (wr.alloc (.cells #[.int .u8 (x - 65 + 97)] 5)).heap.size = wr.heap.size + 1 := by simp
        have s4 := HC.out.size
        have HF5 := Lib.hid (show ∀ q, v5.ownBlock = some q → w.heap.size ≤ q from by
          intro q hq
          rcases hat with hat | hat
          · exact HF.out q (by rw [← hat]; exact hq)
          · rw [hq] at hat
            injection hat with hat
            omega)
        have HC5 := Lib.hid (HC.out.trans hc5 (fun i hi hlt => by have := HF.out i (Option.mem_toList.1 hi); omega))
        have HO5 := Lib.hid (own8_push (c := lowB c) (by rw [HL.out]; exact hown))
        clear hown hgrow hat hc5 hsz s4
        go_roundw
        case rel => exact ⟨k + 1, by omega, by go_num, by rw [HTK.out]; exact HO5, HF5, HC5⟩
        case measure => simp [intOf]; omega
      · have HL := Lib.hid (show ((lowB c).toNat : Int) = (c.toNat : Int) by rw [h3])
        clear h3
        generalize (c.toNat : Int) = x at *
        go_wp2_with (at_builtin; refine wpList_append_own_at _ rfl _ _ 100 rfl 0 5 i0 (.int .u8 0) 1 1 Tryz.underlying100 HI.out.1 HI.out.2.1 HI.out.2.2.1 HI.out.2.2.2 rfl (by decide) (.slice A ((s.data.toList.take k).map lowB).length cp) ((s.data.toList.take k).map lowB).length (u8s ((s.data.toList.take k).map lowB)) rfl (HO.out.alloc _) ⟨wr.heap.size, 0, none⟩ 1 1 [.int .u8 x] rfl rfl (cell_one_new _ _ _) (by simp [Value.oneCell']) (by unfold maxLen; omega) (by omega) (Nat.zero_le _) ?_; intro v5 w5 hown hgrow _ hat)
        have hc5 : Chg (Value.slice A ((s.data.toList.take k).map lowB).length cp).ownBlock.toList wr w5 := ((Chg.refl _ wr).alloc _).grown hgrow (by intro i hi _; rw [hi]; simp)
        have hsz : (wr.alloc (.cells #[.int .u8 x] 5)).heap.size = wr.heap.size + 1 := by simp
        have s4 := HC.out.size
        have HF5 := Lib.hid (show ∀ q, v5.ownBlock = some q → w.heap.size ≤ q from by
          intro q hq
          rcases hat with hat | hat
          · exact HF.out q (by rw [← hat]; exact hq)
          · rw [hq] at hat
            injection hat with hat
            omega)
        have HC5 := Lib.hid (HC.out.trans hc5 (fun i hi hlt => by have := HF.out i (Option.mem_toList.1 hi); omega))
        have HO5 := Lib.hid (own8_push (c := lowB c) (by rw [HL.out]; exact hown))
        clear hown hgrow hat hc5 hsz s4
        go_roundw
        case rel => exact ⟨k + 1, by omega, by go_num, by rw [HTK.out]; exact HO5, HF5, HC5⟩
        case measure => simp [intOf]; omega
      · have HL := Lib.hid (show ((lowB c).toNat : Int) = (c.toNat : Int) by rw [h3])
        clear h3
        generalize (c.toNat : Int) = x at *
        go_wp2_with (at_builtin; refine wpList_append_own_at _ rfl _ _ 100 rfl 0 5 i0 (.int .u8 0) 1 1 Tryz.underlying100 HI.out.1 HI.out.2.1 HI.out.2.2.1 HI.out.2.2.2 rfl (by decide) (.slice A ((s.data.toList.take k).map lowB).length cp) ((s.data.toList.take k).map lowB).length (u8s ((s.data.toList.take k).map lowB)) rfl (HO.out.alloc _) ⟨wr.heap.size, 0, none⟩ 1 1 [.int .u8 x] rfl rfl (cell_one_new _ _ _) (by simp [Value.oneCell']) (by unfold maxLen; omega) (by omega) (Nat.zero_le _) ?_; intro v5 w5 hown hgrow _ hat)
        have hc5 : Chg (Value.slice A ((s.data.toList.take k).map lowB).length cp).ownBlock.toList wr w5 := ((Chg.refl _ wr).alloc _).grown hgrow (by intro i hi _; rw [hi]; simp)
        have hsz : (wr.alloc (.cells #[.int .u8 x] 5)).heap.size = wr.heap.size + 1 := by simp
        have s4 := HC.out.size
        have HF5 := Lib.hid (show ∀ q, v5.ownBlock = some q → w.heap.size ≤ q from by
          intro q hq
          rcases hat with hat | hat
          · exact HF.out q (by rw [← hat]; exact hq)
          · rw [hq] at hat
            injection hat with hat
            omega)
        have HC5 := Lib.hid (HC.out.trans hc5 (fun i hi hlt => by have := HF.out i (Option.mem_toList.1 hi); omega))
        have HO5 := Lib.hid (own8_push (c := lowB c) (by rw [HL.out]; exact hown))
        clear hown hgrow hat hc5 hsz s4
        go_roundw
        case rel => exact ⟨k + 1, by omega, by go_num, by rw [HTK.out]; exact HO5, HF5, HC5⟩
        case measure => simp [intOf]; omega
    · have e : k = s.size := by omega
      have E1 : s.data.toList.take k = s.data.toList := by rw [e, HSZ.out, List.take_length]
      rw [E1] at HO
      by_cases h0 : s.size = 0
      · have hl0 : s.data.toList = [] := by
          have := HSZ.out
          exact List.eq_nil_of_length_eq_zero (by omega)
        have HL0 := Lib.hid hl0
        rw [hl0] at HO
        rcases HO.out.2 with ⟨rfl, h1⟩ | ⟨g, cap, cur, rfl, -⟩
        · have hnone : (convert 100 9 (.slice none 0 0)).run Tryz.prog wr = .ok (.string ⟨#[]⟩) wr := by
            rw [run_convert_bytes_string wr 100 9 5 none 0 0 Tryz.underlying100 Tryz.underlying5 Tryz.underlying9]
            first
            | rfl
            | (unfold Conv.bytesToString; rfl)
            | (unfold Conv.bytesToString; simp; done)
            | (unfold Conv.bytesToString; simp; rfl)
          clear hl0 h1
          go_wp2
          go_ret
          exact ⟨by rw [HL0.out]; rfl, HC.out⟩
        · have hback := run_convert_bytes_back (P := Tryz.prog) wr 100 9 5 ⟨g, 0, none⟩ cap [] Tryz.underlying100 Tryz.underlying5 Tryz.underlying9 (fun j hj => absurd hj (by simp))
          rw [List.length_nil] at hback
          clear hl0
          simp only [List.map_nil, List.length_nil]
          go_wp2
          go_ret
          exact ⟨by rw [HL0.out]; rfl, HC.out⟩
      · obtain ⟨g, cap, rfl, hc⟩ := HO.out.cell (by rw [List.length_map, ← HSZ.out]; omega)
        have hback := run_convert_bytes_back (P := Tryz.prog) wr 100 9 5 ⟨g, 0, none⟩ cap (s.data.toList.map lowB) Tryz.underlying100 Tryz.underlying5 Tryz.underlying9 (fun j hj => by
          rw [show (⟨g, 0, none⟩ : Addr).add j = ⟨g, j, none⟩ by unfold Addr.add; split <;> simp [*]]
          exact hc j hj)
        rw [List.length_map, ← HSZ.out] at hback ⊢
        clear hc
        go_wp2
        go_ret
        exact ⟨rfl, HC.out⟩
end Go.Proofs.YtjndgkbikhndoaaGreatDoor

namespace Go.Proofs.YtjndgkbikhndoaaGreatDoor
open Go.RowKit Go.ChangeShapes Go.WideShapes
set_option linter.unusedVariables false

theorem data_at (s : ByteArray) (k : Nat) (h : k < s.size) : s.data[k]! = s[k]'h := by
  rw [getElem!_pos s.data k h]
  rfl
set_option maxHeartbeats 4000000 in
set_option maxRecDepth 100000 in
theorem last_any (s : ByteArray) (c : Int) (w : World) (hs : s.size ≤ 1048576) (z : Int) (hz : Lib.lastIndexByte s c = z) : Calls Tryz.prog 108 #[.string s, .int .u8 c] w fun e w' => e = .returned (.int .i64 z) ∧ w = w' := by
  have hz3 : (s.size : Int) ≤ 1048576 := by omega
  have HZ := Lib.hid hz
  clear hz
  go_enter Tryz.func108, Tryz.ntmps108
  go_wp2
  go_loopw [5] (fun i wr => ∃ k : Nat, k ≤ s.size ∧ i = .int .i64 ((k : Int) - 1) ∧ Hid (Lib.lastIdx s c k = z) ∧ wr = w) (fun i _ => (intOf i + 1).toNat)
  case atStart => exact ⟨s.size, by omega, rfl, HZ, rfl⟩
  case round =>
    obtain ⟨k, hk, rfl, HL, rfl⟩ := hrel
    cases k with
    | zero =>
      have HR := Lib.hid (show z = -1 from by rw [← HL.out]; rfl)
      go_wp2
      go_ret
      exact ⟨by rw [HR.out]; rfl, rfl⟩
    | succ j =>
      have hj : j < s.size := by omega
      have e1 : ((j + 1 : Nat) : Int) - 1 = (j : Int) := by omega
      rw [e1]
      have hj2 : (j : Int) < (s.size : Int) := by omega
      have hj0 : (0 : Int) ≤ (j : Int) := by omega
      have hda := data_at s j hj
      obtain ⟨x, hx⟩ : ∃ x, s[j]'hj = x := ⟨_, rfl⟩
      rw [hx] at hda
      by_cases hxc : (x.toNat : Int) = c
      · have HR := Lib.hid (show z = (j : Int) from by rw [← HL.out]; exact Lib.lastIdx_hit s c j (by rw [hda]; exact hxc))
        have hq : ((x.toNat : Int) == c) = true := beq_iff_eq.2 hxc
        clear hda hxc
        go_wp2
        go_ret
        exact ⟨by rw [HR.out]; rfl, rfl⟩
      · have HR := Lib.hid (show Lib.lastIdx s c j = z from by rw [← HL.out]; exact (Lib.lastIdx_miss s c j (by rw [hda]; exact hxc)).symm)
        have hq : ((x.toNat : Int) == c) = false := beq_eq_false_iff_ne.2 hxc
        clear hda hxc
        go_wp2
        go_roundw
        case rel => exact ⟨j, by omega, by go_num, HR, by first | rfl | trivial⟩
        case measure => simp [intOf]
/-- What a decimal digit says; -1: it is none. -/
def dig10 (c : Int) : Int := if 48 ≤ c ∧ c ≤ 57 then c - 48 else -1
set_option maxHeartbeats 4000000 in
set_option maxRecDepth 100000 in
theorem digit_any (c : Int) (w : World) (h0 : 0 ≤ c) (h1 : c ≤ 255) : Calls Tryz.prog 133 #[.int .u8 c, .int .i64 10] w fun e w' => e = .returned (.int .i64 (dig10 c)) ∧ w = w' := by
  by_cases a1 : 48 ≤ c
  · by_cases a2 : c ≤ 57
    · skip
      (have HD := Lib.hid (show dig10 c = (c - 48) from by unfold dig10; first | rw [if_pos (by omega)] | rw [if_neg (by omega)]);
       go_enter Tryz.func133, Tryz.ntmps133;
       go_wp2;
       go_ret;
       exact ⟨by rw [HD.out]; rfl, rfl⟩)
    · by_cases a3 : 97 ≤ c
      · have b1 : (65 : Int) ≤ c := by omega
        have b2 : ¬ c ≤ 90 := by omega
        have b3 : ¬ c ≤ 70 := by omega
        by_cases a4 : c ≤ 102
        · skip
          (have HD := Lib.hid (show dig10 c = (-1) from by unfold dig10; first | rw [if_pos (by omega)] | rw [if_neg (by omega)]);
           go_enter Tryz.func133, Tryz.ntmps133;
           go_wp2;
           go_ret;
           exact ⟨by rw [HD.out]; rfl, rfl⟩)
        · skip
          (have HD := Lib.hid (show dig10 c = (-1) from by unfold dig10; first | rw [if_pos (by omega)] | rw [if_neg (by omega)]);
           go_enter Tryz.func133, Tryz.ntmps133;
           go_wp2;
           go_ret;
           exact ⟨by rw [HD.out]; rfl, rfl⟩)
      · by_cases a5 : 65 ≤ c
        · by_cases a6 : c ≤ 70
          · skip
            (have HD := Lib.hid (show dig10 c = (-1) from by unfold dig10; first | rw [if_pos (by omega)] | rw [if_neg (by omega)]);
             go_enter Tryz.func133, Tryz.ntmps133;
             go_wp2;
             go_ret;
             exact ⟨by rw [HD.out]; rfl, rfl⟩)
          · skip
            (have HD := Lib.hid (show dig10 c = (-1) from by unfold dig10; first | rw [if_pos (by omega)] | rw [if_neg (by omega)]);
             go_enter Tryz.func133, Tryz.ntmps133;
             go_wp2;
             go_ret;
             exact ⟨by rw [HD.out]; rfl, rfl⟩)
        · skip
          (have HD := Lib.hid (show dig10 c = (-1) from by unfold dig10; first | rw [if_pos (by omega)] | rw [if_neg (by omega)]);
           go_enter Tryz.func133, Tryz.ntmps133;
           go_wp2;
           go_ret;
           exact ⟨by rw [HD.out]; rfl, rfl⟩)
  · have b1 : ¬ (97 : Int) ≤ c := by omega
    have b2 : ¬ (65 : Int) ≤ c := by omega
    skip
    (have HD := Lib.hid (show dig10 c = (-1) from by unfold dig10; first | rw [if_pos (by omega)] | rw [if_neg (by omega)]);
     go_enter Tryz.func133, Tryz.ntmps133;
     go_wp2;
     go_ret;
     exact ⟨by rw [HD.out]; rfl, rfl⟩)
end Go.Proofs.YtjndgkbikhndoaaGreatDoor

namespace Go.Proofs.YtjndgkbikhndoaaGreatDoor
open Go.RowKit Go.ChangeShapes Go.WideShapes
set_option linter.unusedVariables false

set_option maxHeartbeats 4000000 in
set_option maxRecDepth 100000 in
theorem rdigits_any (s : ByteArray) (w : World) (hs : s.size ≤ 1048576) (a b : Int) (hab : numF s.data.toList = (a, b)) :
    Calls Tryz.prog 110 #[.string s, .int .i64 10] w fun e w' => e = .returned (.tuple #[.int .i64 a, .int .i64 b]) ∧ w = w' := by
  have hz3 : (s.size : Int) ≤ 1048576 := by omega
  have HAB := Lib.hid hab
  clear hab
  by_cases h0 : s.size = 0
  · have hn0 : s.data.toList = [] := List.eq_nil_of_length_eq_zero (by rw [toList_len]; exact h0)
    have hab := HAB.out
    unfold numF at hab
    rw [if_pos hn0] at hab
    obtain ⟨q1, q2⟩ := Prod.mk.inj hab
    subst q1 q2
    have h00 : ((s.size : Int) == 0) = true := beq_iff_eq.2 (by omega)
    clear hab hn0 HAB
    go_enter Tryz.func110, Tryz.ntmps110
    go_wp2
    go_ret2
    exact ⟨rfl, rfl⟩
  · have hn0 : s.data.toList ≠ [] := by
      intro h
      rw [← toList_len, h] at h0
      exact h0 rfl
    have h00 : ((s.size : Int) == 0) = false := beq_eq_false_iff_ne.2 (by omega)
    have hab := HAB.out
    unfold numF at hab
    rw [if_neg hn0] at hab
    have HG := Lib.hid hab
    clear hab hn0 HAB h0
    go_enter Tryz.func110, Tryz.ntmps110
    go_wp2
    go_loopw [6, 7] (fun nv i wr => ∃ k n : Nat, k ≤ s.size ∧ n ≤ 90071992547409929 ∧ nv = .int .i64 n ∧ i = .int .i64 k ∧ Hid (numGo n (decide (9007199254740992 < n)) (s.data.toList.drop k) = (a, b)) ∧ wr = w) (fun _ i _ => s.size - (intOf i).toNat)
    case atStart => exact ⟨0, 0, by omega, by omega, rfl, rfl, HG, rfl⟩
    case round =>
      obtain ⟨k, n, hk, hn, rfl, rfl, HD, rfl⟩ := hrel
      by_cases hlt : k < s.size
      · have hlt2 : (k : Int) < (s.size : Int) := by omega
        have hcl := toList_get s k hlt
        obtain ⟨c, hc⟩ : ∃ c, s[k]'hlt = c := ⟨_, rfl⟩
        rw [hc] at hcl
        have hb : (c.toNat : Int) ≤ 255 := by have := c.toNat_lt; omega
        have HDG := Lib.hid (fun w => digit_any (c.toNat : Int) w (by omega) hb)
        by_cases hd : 48 ≤ c.toNat ∧ c.toNat ≤ 57
        · have hv : dig10 (c.toNat : Int) = (c.toNat : Int) - 48 := by unfold dig10; rw [if_pos (by omega)]
          rw [hv] at HDG
          obtain ⟨d, hdd⟩ : ∃ d, c.toNat - 48 = d := ⟨_, rfl⟩
          have hd9 : d ≤ 9 := by omega
          have hcd : (c.toNat : Int) = (d : Int) + 48 := by omega
          have hnd : ¬ ((c.toNat : Int) - 48 < 0) := by omega
          by_cases hbig : 9007199254740992 < n
          · have hx := num_dig1 (n := n) (r := s.data.toList.drop (k + 1)) hd
            have HX := Lib.hid (show numGo n (decide (9007199254740992 < n)) (s.data.toList.drop (k + 1)) = (a, b) from by
              rw [decide_eq_true hbig, ← hx, ← drop_get hcl, ← HD.out, decide_eq_true hbig])
            have hbig2 : ¬ (n : Int) ≤ 9007199254740992 := by omega
            clear hcl hx HD hd hv hcd
            go_wp2_with (go_at_call 133; (with_reducible refine (HDG.out _).mono ?_); rintro e w' ⟨rfl, rfl⟩)
            go_roundw
            case rel => exact ⟨k + 1, n, by omega, by omega, rfl, by go_num, HX, by first | rfl | trivial⟩
            case measure => simp [intOf]; omega
          · have hx := num_dig0 (n := n) (r := s.data.toList.drop (k + 1)) hd
            have HX := Lib.hid (show numGo (n * 10 + d) (decide (9007199254740992 < n * 10 + d)) (s.data.toList.drop (k + 1)) = (a, b) from by
              rw [← hdd, ← hx, ← drop_get hcl, ← HD.out, decide_eq_false hbig])
            have hbig2 : (n : Int) ≤ 9007199254740992 := by omega
            have hv2 : (c.toNat : Int) - 48 = (d : Int) := by omega
            rw [hv2] at HDG hnd
            clear hcl hx HD hd hv hcd hv2
            go_wp2_with (go_at_call 133; (with_reducible refine (HDG.out _).mono ?_); rintro e w' ⟨rfl, rfl⟩)
            go_roundw
            case rel => exact ⟨k + 1, n * 10 + d, by omega, by omega, by go_num, by go_num, HX, by first | rfl | trivial⟩
            case measure => simp [intOf]; omega
        · have hv : dig10 (c.toNat : Int) = -1 := by unfold dig10; rw [if_neg (by omega)]
          rw [hv] at HDG
          have hx := num_no (n := n) (b := decide (9007199254740992 < n)) (r := s.data.toList.drop (k + 1)) hd
          rw [← drop_get hcl, HD.out] at hx
          obtain ⟨q1, q2⟩ := Prod.mk.inj hx
          subst q1 q2
          clear hcl hx HD hd hv HG
          go_wp2_with (go_at_call 133; (with_reducible refine (HDG.out _).mono ?_); rintro e w' ⟨rfl, rfl⟩)
          go_ret2
          exact ⟨rfl, rfl⟩
      · obtain rfl : k = s.size := by omega
        have hx := HD.out
        rw [← toList_len, List.drop_length] at hx
        by_cases hbig : 9007199254740992 < n
        · rw [decide_eq_true hbig] at hx
          obtain ⟨q1, q2⟩ := Prod.mk.inj (show ((0 : Int), (51 : Int)) = (a, b) from hx)
          subst q1 q2
          have hbig2 : (9007199254740992 : Int) < (n : Int) := by omega
          clear hx HG
          go_wp2
          go_ret2
          exact ⟨rfl, rfl⟩
        · rw [decide_eq_false hbig] at hx
          obtain ⟨q1, q2⟩ := Prod.mk.inj (show ((n : Int), (0 : Int)) = (a, b) from hx)
          subst q1 q2
          have hbig2 : ¬ (9007199254740992 : Int) < (n : Int) := by omega
          clear hx HG
          go_wp2
          go_ret2
          exact ⟨rfl, rfl⟩
theorem named_eq (l : List UInt8) (h1 : l[0]? = some 91) : hostL l = (decide (3 ≤ l.length) && (decide (l[l.length - 1]? = some 93) && ((l.drop 1).take (l.length - 2)).all (fun c => !badR c.toNat))) := by
  obtain ⟨r, rfl⟩ : ∃ r, l = 91 :: r := by
    cases l with
    | nil => simp at h1
    | cons c r =>
      have : c = 91 := by simpa using h1
      exact ⟨r, by rw [this]⟩
  have hp : Lib.hasPrefix (91 :: r) [91] = true := by simp [Lib.hasPrefix]
  have e1 : Lib.trimPrefix (91 :: r) [91] = r := by
    unfold Lib.trimPrefix
    rw [hp, if_pos rfl]
    rfl
  unfold hostL
  rw [hp, if_pos rfl, e1]
  rcases List.eq_nil_or_concat r with rfl | ⟨q, x, rfl⟩
  · rfl
  · rw [List.concat_eq_append]
    have hl : (91 :: (q ++ [x])).length = q.length + 2 := by simp
    have hlast : (91 :: (q ++ [x]))[(91 :: (q ++ [x])).length - 1]? = some x := by
      rw [hl, show q.length + 2 - 1 = q.length + 1 by omega, List.getElem?_cons_succ, List.getElem?_append_right (Nat.le_refl _), Nat.sub_self]
      rfl
    have hmid : ((91 :: (q ++ [x])).drop 1).take ((91 :: (q ++ [x])).length - 2) = q := by
      rw [hl, Nat.add_sub_cancel]
      exact List.take_left
    rw [hlast, hmid, hl]
    have hs : Lib.hasSuffix (q ++ [x]) [93] = decide (some x = some 93) := by
      unfold Lib.hasSuffix List.isSuffixOf
      rw [List.reverse_append]
      simp only [List.reverse_singleton, List.singleton_append, List.isPrefixOf, Bool.and_true]
      rw [Bool.eq_iff_iff, beq_iff_eq, decide_eq_true_eq]
      constructor
      · intro e; rw [e]
      · intro e; injection e with e; exact e.symm
    rw [hs]
    by_cases hx : x = 93
    · subst hx
      have hts : Lib.trimSuffix (q ++ [93]) [93] = q := by
        unfold Lib.trimSuffix
        rw [hs, if_pos (by simp), List.length_append, Nat.add_sub_cancel]
        exact List.take_left
      rw [hts, decide_eq_true (show (some (93 : UInt8)) = some 93 from rfl), Bool.true_and, Bool.true_and]
      have hix : decide (Lib.idxFunc badR true ⟨q.toArray⟩ < 0) = q.all (fun c => !badR c.toNat) := by
        rw [Bool.eq_iff_iff, decide_eq_true_eq, idx_iff, List.all_eq_true]
        exact ⟨fun h c hc => by rw [h c hc]; rfl, fun h c hc => by simpa using h c hc⟩
      rw [hix]
      cases q with
      | nil => rfl
      | cons c q => simp
    · rw [decide_eq_false (fun e => hx (by injection e))]
      simp
end Go.Proofs.YtjndgkbikhndoaaGreatDoor

namespace Go.Proofs.YtjndgkbikhndoaaGreatDoor
open Go.RowKit Go.ChangeShapes Go.WideShapes
set_option linter.unusedVariables false

theorem badR_byte (c : UInt8) : badR c.toNat = (!hexI (c.toNat : Int) && (decide (c.toNat ≠ 58) && decide (c.toNat ≠ 46))) := by
  unfold badR
  by_cases h : 127 < c.toNat
  · have hx : hexI (c.toNat : Int) = false := by
      unfold hexI
      simp
      omega
    rw [decide_eq_true h, hx, decide_eq_true (show c.toNat ≠ 58 by omega), decide_eq_true (show c.toNat ≠ 46 by omega)]
    rfl
  · rw [decide_eq_false h]
    rfl
theorem mid_bad {l : List UInt8} {k : Nat} {c : UInt8} (h : l[k]? = some c) (h1 : 1 ≤ k) (h2 : k < l.length - 1) (hb : badR c.toNat = true) : ((l.drop 1).take (l.length - 2)).all (fun c => !badR c.toNat) = false := by
  rw [List.all_eq_false]
  refine ⟨c, ?_, by simp [hb]⟩
  refine List.mem_of_getElem? (i := k - 1) ?_
  rw [List.getElem?_take, if_pos (by omega), List.getElem?_drop, show 1 + (k - 1) = k by omega]
  exact h
theorem mid_good {l : List UInt8} (h : ∀ (j : Nat) (c : UInt8), 1 ≤ j → j < l.length - 1 → l[j]? = some c → badR c.toNat = false) : ((l.drop 1).take (l.length - 2)).all (fun c => !badR c.toNat) = true := by
  rw [List.all_eq_true]
  intro c hc
  obtain ⟨j, hj, e⟩ := List.getElem_of_mem hc
  have h2 : ((l.drop 1).take (l.length - 2))[j]? = some c := by rw [List.getElem?_eq_getElem hj, e]
  rw [List.length_take, List.length_drop] at hj
  rw [List.getElem?_take, if_pos (by omega), List.getElem?_drop] at h2
  rw [h (1 + j) c (by omega) (by omega) h2]
  rfl
set_option maxHeartbeats 4000000 in
set_option maxRecDepth 100000 in
theorem named_br (s : ByteArray) (w : World) (hs : s.size ≤ 1048576) (h0 : 0 < s.size) (h91 : ((s[0]'h0).toNat : Int) = 91) (z : Bool) (hz : hostL s.data.toList = z) : Calls Tryz.prog 109 #[.string s] w fun e w' => e = .returned (.bool z) ∧ w = w' := by
  have hz3 : (s.size : Int) ≤ 1048576 := by omega
  have h00 : (0 : Int) < (s.size : Int) := by omega
  have hg0 := toList_get s 0 h0
  have hgz : s.data.toList[0]? = some 91 := by
    rw [hg0]
    congr 1
    refine UInt8.toNat_inj.1 ?_
    have : (91 : UInt8).toNat = 91 := rfl
    omega
  rw [named_eq _ hgz, toList_len] at hz
  clear hg0 hgz
  by_cases h3 : 3 ≤ s.size
  · rw [decide_eq_true h3, Bool.true_and] at hz
    have h31 : ¬ (s.size : Int) < 3 := by omega
    obtain ⟨j, hj⟩ : ∃ j, s.size - 1 = j := ⟨_, rfl⟩
    have hjl : j < s.size := by omega
    have hje : (s.size : Int) - 1 = (j : Int) := by omega
    have hgl := toList_get s j hjl
    obtain ⟨x, hx⟩ : ∃ x, s[j]'hjl = x := ⟨_, rfl⟩
    rw [hx] at hgl
    rw [hj, hgl] at hz
    have HGL := Lib.hid hgl
    have HJ := Lib.hid hj
    clear hgl hj
    by_cases h93 : x = 93
    · have h93i : (x.toNat : Int) = 93 := by rw [h93]; rfl
      rw [h93, decide_eq_true (show (some (93 : UInt8)) = some 93 from rfl), Bool.true_and] at hz
      have HZ := Lib.hid hz
      clear hz h93
      go_enter Tryz.func109, Tryz.ntmps109
      go_wp2
      go_loopw [4] (fun i wr => ∃ k : Nat, 1 ≤ k ∧ k ≤ j ∧ i = .int .i64 k ∧ Hid (∀ (i : Nat) (c : UInt8), 1 ≤ i → i < k → s.data.toList[i]? = some c → badR c.toNat = false) ∧ wr = w) (fun i _ => j - (intOf i).toNat)
      case atStart => exact ⟨1, by omega, by omega, rfl, Lib.hid (fun i c h1 h2 => by omega), rfl⟩
      case round =>
        obtain ⟨k, hk1, hk, rfl, HN, rfl⟩ := hrel
        by_cases hlt : k < j
        · have hlt2 : (k : Int) < (j : Int) := by omega
          have hks : k < s.size := by omega
          have hks2 : (k : Int) < (s.size : Int) := by omega
          have hcl := toList_get s k hks
          obtain ⟨c, hc⟩ : ∃ c, s[k]'hks = c := ⟨_, rfl⟩
          rw [hc] at hcl
          have hbr := badR_byte c
          have HSTEP : badR c.toNat = false → Hid (∀ (i : Nat) (c : UInt8), 1 ≤ i → i < k + 1 → s.data.toList[i]? = some c → badR c.toNat = false) := fun hb => Lib.hid (fun i d h1 h2 h3 => by
            rcases Nat.lt_or_ge i k with q | q
            · exact HN.out i d h1 q h3
            · obtain rfl : i = k := by omega
              rw [hcl] at h3
              injection h3 with h3
              rw [← h3]
              exact hb)
          cases q : hexI (c.toNat : Int)
          · have HX : ∀ w, Calls Tryz.prog 131 #[.int .u8 c.toNat] w fun e w' => e = .returned (.bool false) ∧ w = w' := fun w => by rw [← q]; exact rhex_any _ w
            rw [q] at hbr
            by_cases h58 : c.toNat = 58
            · have HS2 := HSTEP (by rw [hbr, h58]; rfl)
              have h4 : ((c.toNat : Int) != 58) = false := by rw [show (c.toNat : Int) = 58 by omega]; rfl
              clear hcl hbr HSTEP q h58
              go_wp2_with (go_at_call 131; (with_reducible refine (HX _).mono ?_); rintro e w' ⟨rfl, rfl⟩)
              go_roundw
              case rel => exact ⟨k + 1, by omega, by omega, by go_num, HS2, by first | rfl | trivial⟩
              case measure => simp [intOf]; omega
            · have h4 : ((c.toNat : Int) != 58) = true := bne_iff_ne.2 (by omega)
              by_cases h46 : c.toNat = 46
              · have HS2 := HSTEP (by rw [hbr, h46]; rfl)
                have h6 : ((c.toNat : Int) != 46) = false := by rw [show (c.toNat : Int) = 46 by omega]; rfl
                clear hcl hbr HSTEP q h58 h46
                go_wp2_with (go_at_call 131; (with_reducible refine (HX _).mono ?_); rintro e w' ⟨rfl, rfl⟩)
                go_roundw
                case rel => exact ⟨k + 1, by omega, by omega, by go_num, HS2, by first | rfl | trivial⟩
                case measure => simp [intOf]; omega
              · have h6 : ((c.toNat : Int) != 46) = true := bne_iff_ne.2 (by omega)
                have HR := Lib.hid (show z = false from by
                  rw [← HZ.out, ← toList_len]
                  refine mid_bad hcl hk1 ?_ (by rw [hbr, decide_eq_true h58, decide_eq_true h46]; rfl)
                  rw [toList_len, HJ.out]
                  exact hlt)
                clear hcl hbr HSTEP q h58 h46
                go_wp2_with (go_at_call 131; (with_reducible refine (HX _).mono ?_); rintro e w' ⟨rfl, rfl⟩)
                go_ret
                exact ⟨by rw [HR.out]; rfl, rfl⟩
          · have HX : ∀ w, Calls Tryz.prog 131 #[.int .u8 c.toNat] w fun e w' => e = .returned (.bool true) ∧ w = w' := fun w => by rw [← q]; exact rhex_any _ w
            rw [q] at hbr
            have HS2 := HSTEP (by rw [hbr]; rfl)
            clear hcl hbr HSTEP q
            go_wp2_with (go_at_call 131; (with_reducible refine (HX _).mono ?_); rintro e w' ⟨rfl, rfl⟩)
            go_roundw
            case rel => exact ⟨k + 1, by omega, by omega, by go_num, HS2, by first | rfl | trivial⟩
            case measure => simp [intOf]; omega
        · obtain rfl : k = j := by omega
          have HR := Lib.hid (show z = true from by
            rw [← HZ.out, ← toList_len]
            refine mid_good (fun i c h1 h2 h3 => HN.out i c h1 ?_ h3)
            rw [toList_len, HJ.out] at h2
            exact h2)
          go_wp2
          go_ret
          exact ⟨by rw [HR.out]; rfl, rfl⟩
    · have h93i : ((x.toNat : Int) != 93) = true := bne_iff_ne.2 (fun e => h93 (UInt8.toNat_inj.1 (by have : (93 : UInt8).toNat = 93 := rfl; omega)))
      have h93j : ¬ (x.toNat : Int) = 93 := bne_iff_ne.1 h93i
      rw [decide_eq_false (fun e => h93 (by injection e)), Bool.false_and] at hz
      subst hz
      clear h93
      go_enter Tryz.func109, Tryz.ntmps109
      go_wp2
      go_ret
      exact ⟨rfl, rfl⟩
  · rw [decide_eq_false h3, Bool.false_and] at hz
    subst hz
    have h31 : (s.size : Int) < 3 := by omega
    go_enter Tryz.func109, Tryz.ntmps109
    go_wp2
    go_ret
    exact ⟨rfl, rfl⟩
set_option maxHeartbeats 4000000 in
set_option maxRecDepth 100000 in
theorem named_any (s : ByteArray) (w : World) (hs : s.size ≤ 1048576) (z : Bool) (hz : hostL s.data.toList = z) : Calls Tryz.prog 109 #[.string s] w fun e w' => e = .returned (.bool z) ∧ w = w' := by
  have hz3 : (s.size : Int) ≤ 1048576 := by omega
  by_cases h0 : 0 < s.size
  · by_cases h91 : ((s[0]'h0).toNat : Int) = 91
    · exact named_br s w hs h0 h91 z hz
    · have h00 : (0 : Int) < (s.size : Int) := by omega
      have hg0 := toList_get s 0 h0
      obtain ⟨x, hx⟩ : ∃ x, s[0]'h0 = x := ⟨_, rfl⟩
      rw [hx] at hg0 h91
      have hne : ((x.toNat : Int) == 91) = false := beq_eq_false_iff_ne.2 h91
      have hp : Lib.hasPrefix s.data.toList [91] = false := by
        unfold Lib.hasPrefix
        cases hl : s.data.toList with
        | nil => rfl
        | cons y r =>
          rw [hl] at hg0
          have : y = x := by simpa using hg0
          subst this
          simp only [List.isPrefixOf, Bool.and_true]
          rw [beq_eq_false_iff_ne]
          intro e
          rw [← e] at h91
          exact h91 rfl
      have he : s.data.toList.isEmpty = false := by
        rw [List.isEmpty_eq_false_iff]
        intro q
        rw [q] at hg0
        simp at hg0
      unfold hostL at hz
      rw [hp, if_neg (by decide), he, toList_len] at hz
      have HM := Lib.hid (fun w => rmade_any s ⟨#[45, 46, 95, 126, 33, 36, 38, 39, 40, 41, 42, 43, 59, 61]⟩ w (by omega) (by decide) (by decide))
      rw [show (⟨#[45, 46, 95, 126, 33, 36, 38, 39, 40, 41, 42, 43, 59, 61]⟩ : ByteArray).data.toList = hostMore from rfl] at HM
      generalize madeL hostMore s.data.toList = mm at hz HM
      clear hg0 hp he h91
      by_cases hl : s.size ≤ 255
      · have hl2 : (s.size : Int) ≤ 255 := by omega
        rw [decide_eq_true hl] at hz
        have hz' : mm = z := hz
        subst hz'
        clear hz hl
        go_enter Tryz.func109, Tryz.ntmps109
        go_wp2_with (go_at_call 132; (with_reducible refine (HM.out _).mono ?_); rintro e w' ⟨rfl, rfl⟩)
        go_ret
        exact ⟨rfl, rfl⟩
      · have hl2 : ¬ (s.size : Int) ≤ 255 := by omega
        rw [decide_eq_false hl] at hz
        have hz' : false = z := hz
        subst hz'
        clear hz hl
        go_enter Tryz.func109, Tryz.ntmps109
        go_wp2_with (go_at_call 132; (with_reducible refine (HM.out _).mono ?_); rintro e w' ⟨rfl, rfl⟩)
        go_ret
        exact ⟨rfl, rfl⟩
  · have h00 : ¬ (0 : Int) < (s.size : Int) := by omega
    have hl : s.data.toList = [] := List.eq_nil_of_length_eq_zero (by rw [toList_len]; omega)
    rw [hl] at hz
    have hz' : false = z := hz
    subst hz'
    clear hz hl
    go_enter Tryz.func109, Tryz.ntmps109
    go_wp2
    go_ret
    exact ⟨rfl, rfl⟩
end Go.Proofs.YtjndgkbikhndoaaGreatDoor

namespace Go.Proofs.YtjndgkbikhndoaaGreatDoor
open Go.RowKit Go.ChangeShapes Go.WideShapes
set_option linter.unusedVariables false

set_option maxHeartbeats 4000000 in
set_option maxRecDepth 100000 in
theorem rHost_any (s : ByteArray) (w : World) (hs : s.size ≤ 1048576) (h : ByteArray) (p e : Int) (hz : hostF s = (h, p, e)) :
    Calls Tryz.prog 80 #[.string s] w fun o w' => o = .returned (.tuple #[.string h, .int .i64 p, .int .i64 e]) ∧ Hid (Chg [] w w') := by
  have hz3 : (s.size : Int) ≤ 1048576 := by omega
  have HC := Lib.hid (fun w => last_any s 58 w hs _ rfl)
  have HD := Lib.hid (fun w => last_any s 93 w hs _ rfl)
  have hb : Lib.lastIndexByte s 58 < s.size := by
    rcases Lib.lastIndexByte_spec s 58 with ⟨q, -⟩ | ⟨i, q1, q2, -⟩ <;> omega
  have hge : -1 ≤ Lib.lastIndexByte s 58 ∧ -1 ≤ Lib.lastIndexByte s 93 := by
    rcases Lib.lastIndexByte_spec s 58 with ⟨q, -⟩ | ⟨i, q1, q2, -⟩ <;> rcases Lib.lastIndexByte_spec s 93 with ⟨q', -⟩ | ⟨i', q1', q2', -⟩ <;> omega
  have hne : 0 ≤ Lib.lastIndexByte s 58 → Lib.lastIndexByte s 58 ≠ Lib.lastIndexByte s 93 := by
    intro h0 h1
    rcases Lib.lastIndexByte_spec s 58 with ⟨q, -⟩ | ⟨i, q1, q2, q3, -⟩
    · omega
    · rcases Lib.lastIndexByte_spec s 93 with ⟨q', -⟩ | ⟨i', q1', q2', q3', -⟩
      · omega
      · obtain rfl : i = i' := by omega
        omega
  unfold hostF nameB digB colonI at hz
  generalize Lib.lastIndexByte s 58 = i at *
  generalize Lib.lastIndexByte s 93 = j at *
  by_cases h1 : j < i
  · have h2 : 0 ≤ i := by omega
    rw [if_neg (show ¬ i < j by omega), if_pos h2, if_pos h2] at hz
    obtain ⟨k, rfl⟩ : ∃ k : Nat, i = k := ⟨i.toNat, by omega⟩
    rw [Int.toNat_natCast] at hz
    have q1 := fun w => slice_to s k w (by omega)
    have q2 := fun w => slice_from s (k + 1) w (by omega)
    rw [show ((k + 1 : Nat) : Int) = (k : Int) + 1 by omega] at q2
    have l1 := ext_size s 0 k
    have l2 := ext_size s (k + 1) s.size
    generalize s.extract 0 k = name at *
    generalize s.extract (k + 1) s.size = dig at *
    have ln : name.size ≤ 1048576 := by omega
    have ld : dig.size ≤ 1048576 := by omega
    clear l1 l2 hne hge
    go_enter Tryz.func80, Tryz.ntmps80
    go_wp2_with (go_at_call 108; first | ((with_reducible refine (HC.out _).mono ?_); rintro e w' ⟨rfl, rfl⟩) | ((with_reducible refine (HD.out _).mono ?_); rintro e w' ⟨rfl, rfl⟩))
    (cases k1 : hostL name.data.toList;
     · (rw [hostG_no k1] at hz;
        (obtain ⟨z1, z2⟩ := Prod.mk.inj hz;
         obtain ⟨z2, z3⟩ := Prod.mk.inj z2;
         subst z1 z2 z3);
        have HH := Lib.hid (fun w => named_any name w ln false k1);
        clear hz k1 ld;
        go_wp2_with (go_at_call 109; (with_reducible refine (HH.out _).mono ?_); rintro e w2 ⟨rfl, rfl⟩);
        go_ret3;
        exact ⟨rfl, Chg.refl _ _⟩)
     · (have HH := Lib.hid (fun w => named_any name w ln true k1);
        cases k2 : dig.toList.isEmpty;
        · (obtain ⟨a, b, hab⟩ : ∃ a b, numF dig.data.toList = (a, b) := ⟨_, _, rfl⟩;
           have HD37 := Lib.hid (fun w => rdigits_any dig w ld a b hab);
           by_cases k3 : b = 0;
           · (subst k3;
              by_cases k4 : 5 < dig.size;
              · (rw [hostG_bad k1 k2 hab (.inr (.inl k4))] at hz;
                 (obtain ⟨z1, z2⟩ := Prod.mk.inj hz;
                  obtain ⟨z2, z3⟩ := Prod.mk.inj z2;
                  subst z1 z2 z3);
                 have k5 : (5 : Int) < (dig.size : Int) := by omega;
                 clear hz k1 hab k4;
                 go_wp2_with (first | (go_at_call 109; (with_reducible refine (HH.out _).mono ?_); rintro e w2 ⟨rfl, rfl⟩) | (go_at_call 110; (with_reducible refine (HD37.out _).mono ?_); rintro e w3 ⟨rfl, rfl⟩));
                 go_ret3;
                 exact ⟨rfl, Chg.refl _ _⟩)
              · (have k5 : ¬ (5 : Int) < (dig.size : Int) := by omega;
                 by_cases k6 : 65535 < a;
                 · (rw [hostG_bad k1 k2 hab (.inr (.inr k6))] at hz;
                    (obtain ⟨z1, z2⟩ := Prod.mk.inj hz;
                     obtain ⟨z2, z3⟩ := Prod.mk.inj z2;
                     subst z1 z2 z3);
                    clear hz k1 hab k4;
                    go_wp2_with (first | (go_at_call 109; (with_reducible refine (HH.out _).mono ?_); rintro e w2 ⟨rfl, rfl⟩) | (go_at_call 110; (with_reducible refine (HD37.out _).mono ?_); rintro e w3 ⟨rfl, rfl⟩));
                    go_ret3;
                    exact ⟨rfl, Chg.refl _ _⟩)
                 · (rw [hostG_ok k1 k2 hab (by omega) (by omega)] at hz;
                    (obtain ⟨z1, z2⟩ := Prod.mk.inj hz;
                     obtain ⟨z2, z3⟩ := Prod.mk.inj z2;
                     subst z1 z2 z3);
                    clear hz k1 hab k4;
                    go_wp2_with (first | (go_at_call 109; (with_reducible refine (HH.out _).mono ?_); rintro e w2 ⟨rfl, rfl⟩) | (go_at_call 110; (with_reducible refine (HD37.out _).mono ?_); rintro e w3 ⟨rfl, rfl⟩));
                    refine (rlower_any name _ ln).mono ?_;
                    rintro e w4 ⟨rfl, H4⟩;
                    go_wp2;
                    go_ret3;
                    exact ⟨rfl, H4.out⟩)))
           · (rw [hostG_bad k1 k2 hab (.inl k3)] at hz;
              (obtain ⟨z1, z2⟩ := Prod.mk.inj hz;
               obtain ⟨z2, z3⟩ := Prod.mk.inj z2;
               subst z1 z2 z3);
              clear hz k1 hab;
              go_wp2_with (first | (go_at_call 109; (with_reducible refine (HH.out _).mono ?_); rintro e w2 ⟨rfl, rfl⟩) | (go_at_call 110; (with_reducible refine (HD37.out _).mono ?_); rintro e w3 ⟨rfl, rfl⟩));
              go_ret3;
              exact ⟨rfl, Chg.refl _ _⟩))
        · (rw [hostG_bare k1 k2] at hz;
           (obtain ⟨z1, z2⟩ := Prod.mk.inj hz;
            obtain ⟨z2, z3⟩ := Prod.mk.inj z2;
            subst z1 z2 z3);
           clear hz k1 ld;
           go_wp2_with (go_at_call 109; (with_reducible refine (HH.out _).mono ?_); rintro e w2 ⟨rfl, rfl⟩);
           refine (rlower_any name _ ln).mono ?_;
           rintro e w4 ⟨rfl, H4⟩;
           go_wp2;
           go_ret3;
           exact ⟨rfl, H4.out⟩)))
  · have hz' : hostG s ⟨#[]⟩ = (h, p, e) := by
      by_cases h3 : i < j
      · rw [if_pos h3, if_neg (by decide), if_neg (by decide)] at hz
        exact hz
      · have h4 : ¬ 0 ≤ i := fun h0 => hne h0 (by omega)
        rw [if_neg h3, if_neg h4, if_neg h4] at hz
        exact hz
    have ln := hs
    have h5 : ¬ i > j := h1
    clear hz hne hge
    have hz := hz'
    clear hz'
    cases k1 : hostL s.data.toList
    · rw [hostG_no k1] at hz
      (obtain ⟨z1, z2⟩ := Prod.mk.inj hz;
       obtain ⟨z2, z3⟩ := Prod.mk.inj z2;
       subst z1 z2 z3)
      have HH := Lib.hid (fun w => named_any s w ln false k1)
      clear hz k1
      go_enter Tryz.func80, Tryz.ntmps80
      go_wp2_with (first | (go_at_call 108; first | ((with_reducible refine (HC.out _).mono ?_); rintro e w' ⟨rfl, rfl⟩) | ((with_reducible refine (HD.out _).mono ?_); rintro e w' ⟨rfl, rfl⟩)) | (go_at_call 109; (with_reducible refine (HH.out _).mono ?_); rintro e w2 ⟨rfl, rfl⟩))
      go_ret3
      exact ⟨rfl, Chg.refl _ _⟩
    · rw [hostG_bare k1 emp_empty] at hz
      (obtain ⟨z1, z2⟩ := Prod.mk.inj hz;
       obtain ⟨z2, z3⟩ := Prod.mk.inj z2;
       subst z1 z2 z3)
      have HH := Lib.hid (fun w => named_any s w ln true k1)
      clear hz k1
      go_enter Tryz.func80, Tryz.ntmps80
      go_wp2_with (first | (go_at_call 108; first | ((with_reducible refine (HC.out _).mono ?_); rintro e w' ⟨rfl, rfl⟩) | ((with_reducible refine (HD.out _).mono ?_); rintro e w' ⟨rfl, rfl⟩)) | (go_at_call 109; (with_reducible refine (HH.out _).mono ?_); rintro e w2 ⟨rfl, rfl⟩))
      refine (rlower_any s _ ln).mono ?_
      rintro e w4 ⟨rfl, H4⟩
      go_wp2
      go_ret3
      exact ⟨rfl, H4.out⟩
end Go.Proofs.YtjndgkbikhndoaaGreatDoor

namespace Go.Proofs.YtjndgkbikhndoaaGreatDoor
open Go.RowKit Go.ChangeShapes Go.WideShapes
set_option linter.unusedVariables false

/-- Two blocks that a call made itself. -/
structure Prs (w W : World) (a b : Nat) (va vb : List Value) : Prop where
  ba : Blk W a va 76
  bb : Blk W b vb 76
  ch : Chg [] w W
  ga : w.heap.size ≤ a
  gb : w.heap.size ≤ b
  ne : a ≠ b
theorem Prs.chg {w W W' : World} {a b : Nat} {va vb : List Value} (h : Prs w W a b va vb) (hc : Chg [] W W') : Prs w W' a b va vb :=
  ⟨h.ba.chg hc (by simp), h.bb.chg hc (by simp), h.ch.trans hc (by simp), h.ga, h.gb, h.ne⟩
theorem Prs.seta {w W : World} {a b : Nat} {va vb : List Value} (h : Prs w W a b va vb) (i : Nat) (v : Value) : Prs w (W.setCell ⟨a, i, none⟩ v) a b (va.set i v) vb :=
  ⟨h.ba.set i v, h.bb.other (by show b ≠ a; exact fun e => h.ne e.symm) _, h.ch.setCell (by intro q; have := h.ga; have : a < w.heap.size := q; omega) _, h.ga, h.gb, h.ne⟩
theorem Prs.setb {w W : World} {a b : Nat} {va vb : List Value} (h : Prs w W a b va vb) (i : Nat) (v : Value) : Prs w (W.setCell ⟨b, i, none⟩ v) a b va (vb.set i v) :=
  ⟨h.ba.other (by show a ≠ b; exact h.ne) _, h.bb.set i v, h.ch.setCell (by intro q; have := h.gb; have : b < w.heap.size := q; omega) _, h.ga, h.gb, h.ne⟩
/-- What is laid into a block of six. -/
def putB (W : World) (n : Nat) (a b c d e f : Value) : World := (((((W.setCell ⟨n, 0, none⟩ a).setCell ⟨n, 1, none⟩ b).setCell ⟨n, 2, none⟩ c).setCell ⟨n, 3, none⟩ d).setCell ⟨n, 4, none⟩ e).setCell ⟨n, 5, none⟩ f
theorem Prs.put {w W : World} {a b : Nat} {va : List Value} (h : Prs w W a b va zeroT) (f p : Int) (hh pa q : ByteArray) (k : Bool) : Prs w (putB W b (.int .i64 f) (.string hh) (.int .i64 p) (.string pa) (.string q) (.bool k)) a b va (tgt f hh p pa q k) := by
  have := (((((h.setb 0 (.int .i64 f)).setb 1 (.string hh)).setb 2 (.int .i64 p)).setb 3 (.string pa)).setb 4 (.string q)).setb 5 (.bool k)
  exact this
theorem Prs.start (w : World) (va vb : List Value) : Prs w ((w.alloc (.cells va.toArray 76)).alloc (.cells vb.toArray 76)) w.heap.size (w.heap.size + 1) va vb := by
  refine ⟨(Blk.new w va 76).alloc _, ?_, ((Chg.refl [] w).alloc _).alloc _, Nat.le_refl _, by omega, by omega⟩
  have := Blk.new (w.alloc (.cells va.toArray 76)) vb 76
  rw [show (w.alloc (.cells va.toArray 76)).heap.size = w.heap.size + 1 by simp] at this
  exact this
theorem index_first {l : List UInt8} {i : Nat} (h : l[i]? = some 63) (hn : ∀ j, j < i → l[j]? ≠ some 63) : Lib.indexByte l 63 = i := by
  induction l generalizing i with
  | nil => simp at h
  | cons b r ih =>
    unfold Lib.indexByte
    cases i with
    | zero =>
      have : b = 63 := by simpa using h
      rw [this]
      rfl
    | succ i =>
      have hb : b ≠ 63 := fun e => hn 0 (by omega) (by rw [e]; rfl)
      rw [if_neg (by simpa using hb)]
      have := ih (i := i) (by simpa using h) (fun j hj e => hn (j + 1) (by omega) (by simpa using e))
      rw [this, if_neg (by simp)]
      omega
theorem index_none {l : List UInt8} (hn : ∀ j : Nat, l[j]? ≠ some 63) : Lib.indexByte l 63 = -1 := by
  induction l with
  | nil => rfl
  | cons b r ih =>
    unfold Lib.indexByte
    have hb : b ≠ 63 := fun e => hn 0 (by rw [e]; rfl)
    rw [if_neg (by simpa using hb), ih (fun j e => hn (j + 1) (by simpa using e))]
    rfl
theorem cut_at {l : List UInt8} {i : Nat} (h : l[i]? = some 63) (hn : ∀ j, j < i → l[j]? ≠ some 63) : Lib.cut l [63] = (l.take i, l.drop (i + 1), true) := by
  unfold Lib.cut
  rw [Lib.index_one, index_first h hn, if_pos (by omega)]
  rfl
theorem cut_none {l : List UInt8} (hn : ∀ j : Nat, l[j]? ≠ some 63) : Lib.cut l [63] = (l, [], false) := by
  unfold Lib.cut
  rw [Lib.index_one, index_none hn, if_neg (by omega)]
theorem ofList (s : ByteArray) (l : List UInt8) (h : s.data.toList = l) : s = ⟨l.toArray⟩ := by
  rw [← h, Array.toArray_toList]
theorem data_ext (s : ByteArray) (a b : Nat) : (s.extract a b).data.toList = (s.data.toList.drop a).take (b - a) := by
  rw [ByteArray.data_extract]
  simp [List.take_drop]
theorem cutS_at {s : ByteArray} {i : Nat} (h : s.data.toList[i]? = some 63) (hn : ∀ j, j < i → s.data.toList[j]? ≠ some 63) : cutP s = s.extract 0 i ∧ cutQ s = s.extract (i + 1) s.size ∧ cutA s = true := by
  unfold cutP cutQ cutA
  rw [cut_at h hn]
  refine ⟨(ofList _ _ ?_).symm, (ofList _ _ ?_).symm, rfl⟩
  · rw [data_ext]; simp
  · rw [data_ext]
    refine List.take_of_length_le ?_
    rw [List.length_drop, toList_len]
    omega
theorem cutS_none {s : ByteArray} (hn : ∀ j : Nat, s.data.toList[j]? ≠ some 63) : cutP s = s ∧ cutQ s = ⟨#[]⟩ ∧ cutA s = false := by
  unfold cutP cutQ cutA
  rw [cut_none hn]
  exact ⟨(ofList s _ rfl).symm, rfl, rfl⟩
set_option maxRecDepth 100000 in
theorem results19 (tmps : Array Value) (w : World) (b : Nat) (f p : Int) (h pa q : ByteArray) (a e : Bool) (ht : tmps.getD 4 undef = .pointer (some ⟨b, 0, none⟩)) (he : tmps.getD 5 undef = .bool e) (hb : Blk w b (tgt f h p pa q a) 76) :
    (results Tryz.f113 tmps).run Tryz.prog w = .ok (.tuple #[.agg (tgt f h p pa q a).toArray, .bool e]) w := by
  have hres : Tryz.f113.results = #[.cell 4 76, .tmp 5] := by kernel_rfl
  have hi : (Tryz.prog.info? 76).map (·.size) = some (tgt f h p pa q a).toArray.size := by
    have : (Tryz.prog.info? 76).map (·.size) = some 6 := by kernel_rfl
    exact this
  have hv : (loadVar 76 ⟨b, 0, none⟩).run Tryz.prog w = .ok (.agg (tgt f h p pa q a).toArray) w := run_loadVar_row w b 76 76 _ (0, 0) _ hb Tryz.underlying76 rfl hi
  have ht' : tmps[4]?.getD undef = .pointer (some ⟨b, 0, none⟩) := by rw [← Array.getD_eq_getD_getElem?]; exact ht
  have he' : tmps[5]?.getD undef = .bool e := by rw [← Array.getD_eq_getD_getElem?]; exact he
  simp [results, ht', he', hv, Result.andThen, asAddr]
theorem head47 (p : ByteArray) (h : 0 < p.size) : Lib.hasPrefix p.data.toList [47] = ((((p[0]'h).toNat : Int)) == 47) := by
  have hg := toList_get p 0 h
  obtain ⟨x, hx⟩ : ∃ x, p[0]'h = x := ⟨_, rfl⟩
  rw [hx] at hg ⊢
  cases hl : p.data.toList with
  | nil => rw [hl] at hg; simp at hg
  | cons y r =>
    rw [hl] at hg
    have : y = x := by simpa using hg
    subst this
    unfold Lib.hasPrefix
    simp only [List.isPrefixOf, Bool.and_true]
    rw [Bool.eq_iff_iff, beq_iff_eq, beq_iff_eq]
    constructor
    · intro e; rw [← e]; rfl
    · intro e
      refine UInt8.toNat_inj.1 ?_
      have : (47 : UInt8).toNat = 47 := rfl
      omega
set_option maxHeartbeats 4000000 in
set_option maxRecDepth 100000 in
theorem rlocal_any (f p : Int) (h : ByteArray) (s : ByteArray) (w : World) (hs : s.size ≤ 1048576) (z : Bool) (hz : locL (cutP s).data.toList (cutQ s).data.toList = z) :
    Calls Tryz.prog 113 #[.agg (tgt f h p ⟨#[]⟩ ⟨#[]⟩ false).toArray, .string s] w fun o w' => o = .returned (.tuple #[.agg (tgt f h p (cutP s) (cutQ s) (cutA s)).toArray, .bool z]) ∧ Hid (Chg [] w w') := by
  have hz3 : (s.size : Int) ≤ 1048576 := by omega
  have HSt := Lib.hid (Prs.start w (tgt f h p s ⟨#[]⟩ false) zeroT)
  have HAll : Hid (∀ P Q A, cutP s = P → cutQ s = Q → cutA s = A → Hid (cutP s = P ∧ cutQ s = Q ∧ cutA s = A) ∧ (Lib.hasPrefix P.data.toList [47] && (madeL pathMore P.data.toList && madeL qryMore Q.data.toList)) = z) := Lib.hid (fun P Q A h1 h2 h3 => by
    refine ⟨Lib.hid ⟨h1, h2, h3⟩, ?_⟩
    rw [← hz, h1, h2]
    rfl)
  clear hz
  change Calls Tryz.prog 113 #[.agg #[.int .i64 f, .string h, .int .i64 p, .string ⟨#[]⟩, .string ⟨#[]⟩, .bool false], .string s] w _
  go_enter Tryz.func113, Tryz.ntmps113
  go_wp2
  have HS1 := HSt.out
  change Prs w ((w.alloc (.cells #[.int .i64 f, .string h, .int .i64 p, .string s, .string ⟨#[]⟩, .bool false] 76)).alloc (.cells #[.int .i64 0, .string ⟨#[]⟩, .int .i64 0, .string ⟨#[]⟩, .string ⟨#[]⟩, .bool false] 76)) w.heap.size (w.heap.size + 1) (tgt f h p s ⟨#[]⟩ false) zeroT at HS1
  generalize ((w.alloc (.cells #[.int .i64 f, .string h, .int .i64 p, .string s, .string ⟨#[]⟩, .bool false] 76)).alloc (.cells #[.int .i64 0, .string ⟨#[]⟩, .int .i64 0, .string ⟨#[]⟩, .string ⟨#[]⟩, .bool false] 76)) = W1 at HS1 ⊢
  generalize w.heap.size + 1 = b at HS1 ⊢
  generalize w.heap.size = a at HS1 ⊢
  have HS := Lib.hid HS1
  clear HS1 HSt
  go_loopw [6] (fun i wr => ∃ k : Nat, k ≤ s.size ∧ i = .int .i64 k ∧ Hid (∀ j : Nat, j < k → s.data.toList[j]? ≠ some 63) ∧ wr = W1) (fun i _ => s.size - (intOf i).toNat)
  case atStart => exact ⟨0, by omega, rfl, Lib.hid (fun j h => absurd h (by omega)), rfl⟩
  case round =>
    obtain ⟨k, hk, rfl, HN, rfl⟩ := hrel
    by_cases hlt : k < s.size
    · have hlt2 : (k : Int) < (s.size : Int) := by omega
      have hcl := toList_get s k hlt
      obtain ⟨x, hx⟩ : ∃ x, s[k]'hlt = x := ⟨_, rfl⟩
      rw [hx] at hcl
      by_cases hxc : x = 63
      · have hq : ((x.toNat : Int) == 63) = true := by rw [hxc]; rfl
        rw [hxc] at hcl
        obtain ⟨k1, k2, k3⟩ := cutS_at hcl HN.out
        have q1 := fun w => slice_to s k w (by omega)
        have q2 := fun w => slice_from s (k + 1) w (by omega)
        rw [show ((k + 1 : Nat) : Int) = (k : Int) + 1 by omega] at q2
        have l1 := ext_size s 0 k
        have l2 := ext_size s (k + 1) s.size
        generalize s.extract 0 k = P at *
        generalize s.extract (k + 1) s.size = Q at *
        obtain ⟨HPQ, hz⟩ := HAll.out P Q true k1 k2 k3
        have HA := Lib.hid k3
        have HP1 := Lib.hid k1
        have HQ1 := Lib.hid k2
        have HP := Lib.hid (((HS.out.seta 3 (.string P)).seta 4 (.string Q)).seta 5 (.bool true))
        clear hcl hxc k1 k2 k3
        have e3 := HS.out.ba.cell 3 _ rfl
        have e4 := HS.out.ba.cell 4 _ rfl
        have e5 := HS.out.ba.cell 5 _ rfl
        have g3 := HS.out.ba.free 3
        have g4 := HS.out.ba.free 4
        have g5 := HS.out.ba.free 5
        have H2 := Lib.hid (fun w => rmade_any P ⟨#[45, 46, 95, 126, 33, 36, 38, 39, 40, 41, 42, 43, 44, 59, 61, 58, 64, 47]⟩ w (by omega) (by decide) (by decide))
        have H3 := Lib.hid (fun w => rmade_any Q ⟨#[45, 46, 95, 126, 33, 36, 38, 39, 40, 41, 42, 43, 44, 59, 61, 58, 64, 47, 63]⟩ w (by omega) (by decide) (by decide))
        rw [show (⟨#[45, 46, 95, 126, 33, 36, 38, 39, 40, 41, 42, 43, 44, 59, 61, 58, 64, 47]⟩ : ByteArray).data.toList = pathMore from rfl] at H2
        rw [show (⟨#[45, 46, 95, 126, 33, 36, 38, 39, 40, 41, 42, 43, 44, 59, 61, 58, 64, 47, 63]⟩ : ByteArray).data.toList = qryMore from rfl] at H3
        generalize madeL pathMore P.data.toList = b2 at *
        generalize madeL qryMore Q.data.toList = b3 at *
        by_cases hp0 : 0 < P.size
        · have hp0i : (0 : Int) < (P.size : Int) := by omega
          have hh47 := head47 P hp0
          obtain ⟨x, hx⟩ : ∃ x, P[0]'hp0 = x := ⟨_, rfl⟩
          rw [hx] at hh47
          cases hq47 : ((x.toNat : Int) == 47)
          · have HZ := Lib.hid (show z = false from by rw [← hz, hh47, hq47]; rfl)
            clear hh47 hz
            (have HPT := Lib.hid (HP.out.put f p h P Q true);
             have c0 := HP.out.bb.cell 0 _ rfl;
             have c1 := HP.out.bb.cell 1 _ rfl;
             have c2 := HP.out.bb.cell 2 _ rfl;
             have c3 := HP.out.bb.cell 3 _ rfl;
             have c4 := HP.out.bb.cell 4 _ rfl;
             have c5 := HP.out.bb.cell 5 _ rfl;
             have f0 := HP.out.bb.free 0;
             have f1 := HP.out.bb.free 1;
             have f2 := HP.out.bb.free 2;
             have f3 := HP.out.bb.free 3;
             have f4 := HP.out.bb.free 4;
             have f5 := HP.out.bb.free 5;
             have d0 := HP.out.ba.cell 0 _ rfl;
             have d1 := HP.out.ba.cell 1 _ rfl;
             have d2 := HP.out.ba.cell 2 _ rfl;
             have d3 := HP.out.ba.cell 3 _ rfl;
             have d4 := HP.out.ba.cell 4 _ rfl;
             have d5 := HP.out.ba.cell 5 _ rfl)
            go_wp2
            refine bodyPost_ret (results19 _ _ b f p h P Q true false rfl rfl HPT.out.bb) rfl ⟨?_, HPT.out.ch⟩
            rw [HZ.out, HA.out, HP1.out, HQ1.out]
          · rw [hh47, hq47, Bool.true_and] at hz
            clear hh47
            (have HPT := Lib.hid (HP.out.put f p h P Q true);
             have c0 := HP.out.bb.cell 0 _ rfl;
             have c1 := HP.out.bb.cell 1 _ rfl;
             have c2 := HP.out.bb.cell 2 _ rfl;
             have c3 := HP.out.bb.cell 3 _ rfl;
             have c4 := HP.out.bb.cell 4 _ rfl;
             have c5 := HP.out.bb.cell 5 _ rfl;
             have f0 := HP.out.bb.free 0;
             have f1 := HP.out.bb.free 1;
             have f2 := HP.out.bb.free 2;
             have f3 := HP.out.bb.free 3;
             have f4 := HP.out.bb.free 4;
             have f5 := HP.out.bb.free 5;
             have d0 := HP.out.ba.cell 0 _ rfl;
             have d1 := HP.out.ba.cell 1 _ rfl;
             have d2 := HP.out.ba.cell 2 _ rfl;
             have d3 := HP.out.ba.cell 3 _ rfl;
             have d4 := HP.out.ba.cell 4 _ rfl;
             have d5 := HP.out.ba.cell 5 _ rfl)
            cases b2
            · have HZ := Lib.hid (show z = false from by rw [← hz]; rfl)
              clear hz
              go_wp2_with (go_at_call 132; (with_reducible refine (H2.out _).mono ?_); rintro e w4 ⟨rfl, rfl⟩)
              refine bodyPost_ret (results19 _ _ b f p h P Q true false rfl rfl HPT.out.bb) rfl ⟨?_, HPT.out.ch⟩
              rw [HZ.out, HA.out, HP1.out, HQ1.out]
            · rw [Bool.true_and] at hz
              have HZ := Lib.hid (show z = b3 from hz.symm)
              clear hz
              go_wp2_with (go_at_call 132; first | ((with_reducible refine (H2.out _).mono ?_); rintro e w4 ⟨rfl, rfl⟩) | ((with_reducible refine (H3.out _).mono ?_); rintro e w5 ⟨rfl, rfl⟩))
              refine bodyPost_ret (results19 _ _ b f p h P Q true b3 rfl rfl HPT.out.bb) rfl ⟨?_, HPT.out.ch⟩
              rw [HZ.out, HA.out, HP1.out, HQ1.out]
        · have hp0i : ¬ (0 : Int) < (P.size : Int) := by omega
          have HZ := Lib.hid (show z = false from by
            rw [← hz]
            have hl : P.data.toList = [] := List.eq_nil_of_length_eq_zero (by rw [toList_len]; omega)
            rw [hl]
            rfl)
          clear hz
          (have HPT := Lib.hid (HP.out.put f p h P Q true);
           have c0 := HP.out.bb.cell 0 _ rfl;
           have c1 := HP.out.bb.cell 1 _ rfl;
           have c2 := HP.out.bb.cell 2 _ rfl;
           have c3 := HP.out.bb.cell 3 _ rfl;
           have c4 := HP.out.bb.cell 4 _ rfl;
           have c5 := HP.out.bb.cell 5 _ rfl;
           have f0 := HP.out.bb.free 0;
           have f1 := HP.out.bb.free 1;
           have f2 := HP.out.bb.free 2;
           have f3 := HP.out.bb.free 3;
           have f4 := HP.out.bb.free 4;
           have f5 := HP.out.bb.free 5;
           have d0 := HP.out.ba.cell 0 _ rfl;
           have d1 := HP.out.ba.cell 1 _ rfl;
           have d2 := HP.out.ba.cell 2 _ rfl;
           have d3 := HP.out.ba.cell 3 _ rfl;
           have d4 := HP.out.ba.cell 4 _ rfl;
           have d5 := HP.out.ba.cell 5 _ rfl)
          go_wp2
          refine bodyPost_ret (results19 _ _ b f p h P Q true false rfl rfl HPT.out.bb) rfl ⟨?_, HPT.out.ch⟩
          rw [HZ.out, HA.out, HP1.out, HQ1.out]
      · have hq : ((x.toNat : Int) == 63) = false := beq_eq_false_iff_ne.2 (fun e => hxc (UInt8.toNat_inj.1 (by have : (63 : UInt8).toNat = 63 := rfl; omega)))
        have HN2 := Lib.hid (show ∀ j : Nat, j < k + 1 → s.data.toList[j]? ≠ some 63 from fun j hj hd => by
          rcases Nat.lt_or_ge j k with h1 | h1
          · exact HN.out j h1 hd
          · obtain rfl : j = k := by omega
            rw [hcl] at hd
            injection hd with hd
            exact hxc hd)
        clear hcl hxc HN
        go_wp2
        go_roundw
        case rel => exact ⟨k + 1, by omega, by go_num, HN2, by first | rfl | trivial⟩
        case measure => simp [intOf]; omega
    · obtain rfl : k = s.size := by omega
      obtain ⟨k1, k2, k3⟩ := cutS_none (s := s) (fun j e => by
        rcases Nat.lt_or_ge j s.size with h1 | h1
        · exact HN.out j h1 e
        · rw [List.getElem?_eq_none (by rw [toList_len]; exact h1)] at e
          cases e)
      have HA := Lib.hid k3
      have HP1 := Lib.hid k1
      have HQ1 := Lib.hid k2
      obtain ⟨HPQ, hz⟩ := HAll.out s ⟨#[]⟩ false k1 k2 k3
      have HP := HS
      clear k1 k2 k3
      have l2 : (⟨#[]⟩ : ByteArray).size ≤ 5 := by decide
      have H2 := Lib.hid (fun w => rmade_any s ⟨#[45, 46, 95, 126, 33, 36, 38, 39, 40, 41, 42, 43, 44, 59, 61, 58, 64, 47]⟩ w (by omega) (by decide) (by decide))
      have H3 := Lib.hid (fun w => rmade_any (⟨#[]⟩ : ByteArray) ⟨#[45, 46, 95, 126, 33, 36, 38, 39, 40, 41, 42, 43, 44, 59, 61, 58, 64, 47, 63]⟩ w (by omega) (by decide) (by decide))
      rw [show (⟨#[45, 46, 95, 126, 33, 36, 38, 39, 40, 41, 42, 43, 44, 59, 61, 58, 64, 47]⟩ : ByteArray).data.toList = pathMore from rfl] at H2
      rw [show (⟨#[45, 46, 95, 126, 33, 36, 38, 39, 40, 41, 42, 43, 44, 59, 61, 58, 64, 47, 63]⟩ : ByteArray).data.toList = qryMore from rfl] at H3
      generalize madeL pathMore s.data.toList = b2 at *
      generalize madeL qryMore (⟨#[]⟩ : ByteArray).data.toList = b3 at *
      by_cases hp0 : 0 < s.size
      · have hp0i : (0 : Int) < (s.size : Int) := by omega
        have hh47 := head47 s hp0
        obtain ⟨x, hx⟩ : ∃ x, s[0]'hp0 = x := ⟨_, rfl⟩
        rw [hx] at hh47
        cases hq47 : ((x.toNat : Int) == 47)
        · have HZ := Lib.hid (show z = false from by rw [← hz, hh47, hq47]; rfl)
          clear hh47 hz
          (have HPT := Lib.hid (HP.out.put f p h s (⟨#[]⟩ : ByteArray) false);
           have c0 := HP.out.bb.cell 0 _ rfl;
           have c1 := HP.out.bb.cell 1 _ rfl;
           have c2 := HP.out.bb.cell 2 _ rfl;
           have c3 := HP.out.bb.cell 3 _ rfl;
           have c4 := HP.out.bb.cell 4 _ rfl;
           have c5 := HP.out.bb.cell 5 _ rfl;
           have f0 := HP.out.bb.free 0;
           have f1 := HP.out.bb.free 1;
           have f2 := HP.out.bb.free 2;
           have f3 := HP.out.bb.free 3;
           have f4 := HP.out.bb.free 4;
           have f5 := HP.out.bb.free 5;
           have d0 := HP.out.ba.cell 0 _ rfl;
           have d1 := HP.out.ba.cell 1 _ rfl;
           have d2 := HP.out.ba.cell 2 _ rfl;
           have d3 := HP.out.ba.cell 3 _ rfl;
           have d4 := HP.out.ba.cell 4 _ rfl;
           have d5 := HP.out.ba.cell 5 _ rfl)
          go_wp2
          refine bodyPost_ret (results19 _ _ b f p h s (⟨#[]⟩ : ByteArray) false false rfl rfl HPT.out.bb) rfl ⟨?_, HPT.out.ch⟩
          rw [HZ.out, HA.out, HP1.out, HQ1.out]
        · rw [hh47, hq47, Bool.true_and] at hz
          clear hh47
          (have HPT := Lib.hid (HP.out.put f p h s (⟨#[]⟩ : ByteArray) false);
           have c0 := HP.out.bb.cell 0 _ rfl;
           have c1 := HP.out.bb.cell 1 _ rfl;
           have c2 := HP.out.bb.cell 2 _ rfl;
           have c3 := HP.out.bb.cell 3 _ rfl;
           have c4 := HP.out.bb.cell 4 _ rfl;
           have c5 := HP.out.bb.cell 5 _ rfl;
           have f0 := HP.out.bb.free 0;
           have f1 := HP.out.bb.free 1;
           have f2 := HP.out.bb.free 2;
           have f3 := HP.out.bb.free 3;
           have f4 := HP.out.bb.free 4;
           have f5 := HP.out.bb.free 5;
           have d0 := HP.out.ba.cell 0 _ rfl;
           have d1 := HP.out.ba.cell 1 _ rfl;
           have d2 := HP.out.ba.cell 2 _ rfl;
           have d3 := HP.out.ba.cell 3 _ rfl;
           have d4 := HP.out.ba.cell 4 _ rfl;
           have d5 := HP.out.ba.cell 5 _ rfl)
          cases b2
          · have HZ := Lib.hid (show z = false from by rw [← hz]; rfl)
            clear hz
            go_wp2_with (go_at_call 132; (with_reducible refine (H2.out _).mono ?_); rintro e w4 ⟨rfl, rfl⟩)
            refine bodyPost_ret (results19 _ _ b f p h s (⟨#[]⟩ : ByteArray) false false rfl rfl HPT.out.bb) rfl ⟨?_, HPT.out.ch⟩
            rw [HZ.out, HA.out, HP1.out, HQ1.out]
          · rw [Bool.true_and] at hz
            have HZ := Lib.hid (show z = b3 from hz.symm)
            clear hz
            go_wp2_with (go_at_call 132; first | ((with_reducible refine (H2.out _).mono ?_); rintro e w4 ⟨rfl, rfl⟩) | ((with_reducible refine (H3.out _).mono ?_); rintro e w5 ⟨rfl, rfl⟩))
            refine bodyPost_ret (results19 _ _ b f p h s (⟨#[]⟩ : ByteArray) false b3 rfl rfl HPT.out.bb) rfl ⟨?_, HPT.out.ch⟩
            rw [HZ.out, HA.out, HP1.out, HQ1.out]
      · have hp0i : ¬ (0 : Int) < (s.size : Int) := by omega
        have HZ := Lib.hid (show z = false from by
          rw [← hz]
          have hl : s.data.toList = [] := List.eq_nil_of_length_eq_zero (by rw [toList_len]; omega)
          rw [hl]
          rfl)
        clear hz
        (have HPT := Lib.hid (HP.out.put f p h s (⟨#[]⟩ : ByteArray) false);
         have c0 := HP.out.bb.cell 0 _ rfl;
         have c1 := HP.out.bb.cell 1 _ rfl;
         have c2 := HP.out.bb.cell 2 _ rfl;
         have c3 := HP.out.bb.cell 3 _ rfl;
         have c4 := HP.out.bb.cell 4 _ rfl;
         have c5 := HP.out.bb.cell 5 _ rfl;
         have f0 := HP.out.bb.free 0;
         have f1 := HP.out.bb.free 1;
         have f2 := HP.out.bb.free 2;
         have f3 := HP.out.bb.free 3;
         have f4 := HP.out.bb.free 4;
         have f5 := HP.out.bb.free 5;
         have d0 := HP.out.ba.cell 0 _ rfl;
         have d1 := HP.out.ba.cell 1 _ rfl;
         have d2 := HP.out.ba.cell 2 _ rfl;
         have d3 := HP.out.ba.cell 3 _ rfl;
         have d4 := HP.out.ba.cell 4 _ rfl;
         have d5 := HP.out.ba.cell 5 _ rfl)
        go_wp2
        refine bodyPost_ret (results19 _ _ b f p h s (⟨#[]⟩ : ByteArray) false false rfl rfl HPT.out.bb) rfl ⟨?_, HPT.out.ch⟩
        rw [HZ.out, HA.out, HP1.out, HQ1.out]
end Go.Proofs.YtjndgkbikhndoaaGreatDoor

namespace Go.Proofs.YtjndgkbikhndoaaGreatDoor
open Go.RowKit Go.ChangeShapes Go.WideShapes
set_option linter.unusedVariables false

set_option maxRecDepth 100000 in
theorem results10 (tmps : Array Value) (w : World) (b : Nat) (f p : Int) (h pa q : ByteArray) (a : Bool) (e : Int) (ht : tmps.getD 4 undef = .pointer (some ⟨b, 0, none⟩)) (he : tmps.getD 5 undef = .int .i64 e) (hb : Blk w b (tgt f h p pa q a) 76) :
    (results Tryz.f83 tmps).run Tryz.prog w = .ok (.tuple #[.agg (tgt f h p pa q a).toArray, .int .i64 e]) w := by
  have hres : Tryz.f83.results = #[.cell 4 76, .tmp 5] := by kernel_rfl
  have hi : (Tryz.prog.info? 76).map (·.size) = some (tgt f h p pa q a).toArray.size := by
    have : (Tryz.prog.info? 76).map (·.size) = some 6 := by kernel_rfl
    exact this
  have hv : (loadVar 76 ⟨b, 0, none⟩).run Tryz.prog w = .ok (.agg (tgt f h p pa q a).toArray) w := run_loadVar_row w b 76 76 _ (0, 0) _ hb Tryz.underlying76 rfl hi
  have ht' : tmps[4]?.getD undef = .pointer (some ⟨b, 0, none⟩) := by rw [← Array.getD_eq_getD_getElem?]; exact ht
  have he' : tmps[5]?.getD undef = .int .i64 e := by rw [← Array.getD_eq_getD_getElem?]; exact he
  simp [results, ht', he', hv, Result.andThen, asAddr]
/-- The result's block, which still holds nothing. -/
structure Res (w W : World) (b : Nat) (vs : List Value) : Prop where
  res : Blk W b vs 76
  ch : Chg [] w W
  ge : w.heap.size ≤ b
theorem Res.chg {w W W' : World} {b : Nat} {vs : List Value} (h : Res w W b vs) (hc : Chg [] W W') : Res w W' b vs := ⟨h.res.chg hc (by simp), h.ch.trans hc (by simp), h.ge⟩
theorem Res.set {w W : World} {b : Nat} {vs : List Value} (h : Res w W b vs) (i : Nat) (v : Value) : Res w (W.setCell ⟨b, i, none⟩ v) b (vs.set i v) :=
  ⟨h.res.set i v, h.ch.setCell (by intro q; have := h.ge; have : b < w.heap.size := q; omega) _, h.ge⟩
theorem Res.put {w W : World} {b : Nat} (h : Res w W b zeroT) (f p : Int) (hh pa q : ByteArray) (k : Bool) : Res w (putB W b (.int .i64 f) (.string hh) (.int .i64 p) (.string pa) (.string q) (.bool k)) b (tgt f hh p pa q k) := by
  have := (((((h.set 0 (.int .i64 f)).set 1 (.string hh)).set 2 (.int .i64 p)).set 3 (.string pa)).set 4 (.string q)).set 5 (.bool k)
  exact this
theorem Res.start (w : World) (vs : List Value) : Res w (w.alloc (.cells vs.toArray 76)) w.heap.size vs := ⟨Blk.new w vs 76, (Chg.refl [] w).alloc _, Nat.le_refl _⟩
set_option maxHeartbeats 4000000 in
set_option maxRecDepth 100000 in
theorem rparse_long (m s : ByteArray) (w : World) (h : 8192 < s.size) :
    Calls Tryz.prog 83 #[.string m, .string s] w fun o w' => o = .returned (.tuple #[.agg zeroT.toArray, .int .i64 2]) ∧ Hid (Chg [] w w') := by
  have h2 : (8192 : Int) < (s.size : Int) := by omega
  have HB := Lib.hid (Blk.new w zeroT 76)
  have HC := Lib.hid ((Chg.refl [] w).alloc (.cells zeroT.toArray 76))
  go_enter Tryz.func83, Tryz.ntmps83
  go_wp2
  exact bodyPost_ret (results10 _ _ w.heap.size 0 0 ⟨#[]⟩ ⟨#[]⟩ ⟨#[]⟩ false 2 rfl rfl HB.out) rfl ⟨rfl, HC.out⟩
set_option maxHeartbeats 4000000 in
set_option maxRecDepth 100000 in
theorem rparse_conn (m s : ByteArray) (w : World) (h : s.size ≤ 8192) (k : (m.toList == [67, 79, 78, 78, 69, 67, 84]) = true) :
    Calls Tryz.prog 83 #[.string m, .string s] w fun o w' => o = .returned (.tuple #[.agg (connF s).1.toArray, .int .i64 (connF s).2]) ∧ Hid (Chg [] w w') := by
  have h2 : ¬ (8192 : Int) < (s.size : Int) := by omega
  obtain ⟨hh, p, e, hz⟩ : ∃ hh p e, hostF s = (hh, p, e) := ⟨_, _, _, rfl⟩
  have HTS := Lib.hid (Res.start w zeroT)
  have hcf : connF s = if e ≠ 0 then (zeroT, e) else if p < 0 then (zeroT, 62) else (tgt 3 hh p ⟨#[]⟩ ⟨#[]⟩ false, 0) := by
    unfold connF
    rw [hz]
  have HZ := Lib.hid hz
  have HCF := Lib.hid hcf
  clear hz hcf
  go_enter Tryz.func83, Tryz.ntmps83
  go_wp2_with fail
  have HW1 := HTS.out
  change Res w (w.alloc (.cells #[.int .i64 0, .string ⟨#[]⟩, .int .i64 0, .string ⟨#[]⟩, .string ⟨#[]⟩, .bool false] 76)) _ _ at HW1
  generalize (w.alloc (.cells #[.int .i64 0, .string ⟨#[]⟩, .int .i64 0, .string ⟨#[]⟩, .string ⟨#[]⟩, .bool false] 76)) = W1 at HW1 ⊢
  generalize w.heap.size = b at HW1 ⊢
  refine (rHost_any s _ (by omega) hh p e HZ.out).mono ?_
  rintro o W2 ⟨rfl, H2⟩
  have HR := Lib.hid (HW1.chg H2.out)
  (have c0 := HR.out.res.cell 0 _ rfl;
   have c1 := HR.out.res.cell 1 _ rfl;
   have c2 := HR.out.res.cell 2 _ rfl;
   have c3 := HR.out.res.cell 3 _ rfl;
   have c4 := HR.out.res.cell 4 _ rfl;
   have c5 := HR.out.res.cell 5 _ rfl;
   have f0 := HR.out.res.free 0;
   have f1 := HR.out.res.free 1;
   have f2 := HR.out.res.free 2;
   have f3 := HR.out.res.free 3;
   have f4 := HR.out.res.free 4;
   have f5 := HR.out.res.free 5)
  have HPZ := Lib.hid (HR.out.put 0 0 ⟨#[]⟩ ⟨#[]⟩ ⟨#[]⟩ false)
  have HPT := Lib.hid (HR.out.put 3 p hh ⟨#[]⟩ ⟨#[]⟩ false)
  clear HW1
  by_cases k1 : e = 0
  · subst k1
    by_cases k2 : p < 0
    · have HQ : Hid (connF s = (zeroT, 62)) := Lib.hid (by rw [HCF.out, if_neg (by decide), if_pos k2])
      go_wp2
      rw [HQ.out]
      exact bodyPost_ret (results10 _ _ b 0 0 ⟨#[]⟩ ⟨#[]⟩ ⟨#[]⟩ false 62 rfl rfl HPZ.out.res) rfl ⟨rfl, HPZ.out.ch⟩
    · have HQ : Hid (connF s = (tgt 3 hh p ⟨#[]⟩ ⟨#[]⟩ false, 0)) := Lib.hid (by rw [HCF.out, if_neg (by decide), if_neg k2])
      go_wp2
      rw [HQ.out]
      exact bodyPost_ret (results10 _ _ b 3 p hh ⟨#[]⟩ ⟨#[]⟩ false 0 rfl rfl HPT.out.res) rfl ⟨rfl, HPT.out.ch⟩
  · have HQ : Hid (connF s = (zeroT, e)) := Lib.hid (by rw [HCF.out, if_pos k1])
    have k1b : (e == 0) = false := beq_eq_false_iff_ne.2 k1
    go_wp2
    rw [HQ.out]
    exact bodyPost_ret (results10 _ _ b 0 0 ⟨#[]⟩ ⟨#[]⟩ ⟨#[]⟩ false e rfl rfl HPZ.out.res) rfl ⟨rfl, HPZ.out.ch⟩
set_option maxHeartbeats 4000000 in
set_option maxRecDepth 100000 in
theorem rparse_star (m s : ByteArray) (w : World) (h : s.size ≤ 8192) (k : (m.toList == [67, 79, 78, 78, 69, 67, 84]) = false) (k2 : (s.toList == [42]) = true) (z : Bool) (k3 : (m.toList == [79, 80, 84, 73, 79, 78, 83]) = z) :
    Calls Tryz.prog 83 #[.string m, .string s] w fun o w' => o = .returned (.tuple #[.agg (if z then tgt 4 ⟨#[]⟩ (-1) ⟨#[]⟩ ⟨#[]⟩ false else zeroT).toArray, .int .i64 (if z then 0 else 60)]) ∧ Hid (Chg [] w w') := by
  have hl : s.data.toList = [42] := by
    rw [beq_iff_eq, Lib.toList_data] at k2
    exact k2
  have hs1 : s.size = 1 := by rw [← toList_len, hl]; rfl
  have hs1i : (s.size : Int) = 1 := by omega
  have hg := toList_get s 0 (by omega)
  obtain ⟨x, hx⟩ : ∃ x, s[0]'(by omega) = x := ⟨_, rfl⟩
  rw [hx, hl] at hg
  have hx2 : x = 42 := by simpa using hg.symm
  have hq : ((x.toNat : Int) == 47) = false := by rw [hx2]; rfl
  clear hl hg hx2
  cases z
  · have HTS := Lib.hid (Res.start w zeroT)
    go_enter Tryz.func83, Tryz.ntmps83
    go_wp2
    exact bodyPost_ret (results10 _ _ w.heap.size 0 0 ⟨#[]⟩ ⟨#[]⟩ ⟨#[]⟩ false 60 rfl rfl HTS.out.res) rfl ⟨rfl, HTS.out.ch⟩
  · have HTS := Lib.hid ((Res.start w zeroT).put 4 (-1) ⟨#[]⟩ ⟨#[]⟩ ⟨#[]⟩ false)
    have HTS2 := Lib.hid (Res.start w (tgt 4 ⟨#[]⟩ (-1) ⟨#[]⟩ ⟨#[]⟩ false))
    go_enter Tryz.func83, Tryz.ntmps83
    go_wp2
    first
    | exact bodyPost_ret (results10 _ _ w.heap.size 4 (-1) ⟨#[]⟩ ⟨#[]⟩ ⟨#[]⟩ false 0 rfl rfl HTS2.out.res) rfl ⟨rfl, HTS2.out.ch⟩
    | exact bodyPost_ret (results10 _ _ w.heap.size 4 (-1) ⟨#[]⟩ ⟨#[]⟩ ⟨#[]⟩ false 0 rfl rfl HTS.out.res) rfl ⟨rfl, HTS.out.ch⟩
theorem slash_http {s : ByteArray} (h : Lib.hasPrefix s.data.toList [47] = true) : isHttp s = false := by
  unfold isHttp
  by_cases h7 : 7 ≤ s.size
  · rw [decide_eq_true h7, Bool.true_and, decide_eq_false_iff_not]
    intro e
    rw [Lib.toList_data, Lib.toList_data] at e
    have e2 : (low (s.extract 0 7)).data.toList[0]? = (low http7).data.toList[0]? := by rw [e]
    have hh := head47 s (by omega)
    rw [h] at hh
    have hc : ((s[0]'(by omega)).toNat : Int) = 47 := beq_iff_eq.1 hh.symm
    have hg := toList_get s 0 (by omega)
    obtain ⟨x, hx⟩ : ∃ x, s[0]'(by omega) = x := ⟨_, rfl⟩
    rw [hx] at hg hc
    have hl : (s.extract 0 7).data.toList[0]? = some x := by
      rw [data_ext, List.getElem?_take, if_pos (by omega), List.getElem?_drop]
      exact hg
    have hx47 : x = 47 := UInt8.toNat_inj.1 (by have : (47 : UInt8).toNat = 47 := rfl; omega)
    have hlow : (low (s.extract 0 7)).data.toList[0]? = some (lowB x) := by
      show (((s.extract 0 7).data.toList.map lowB).toArray.toList)[0]? = _
      rw [List.getElem?_map, hl]
      rfl
    rw [hlow, hx47] at e2
    exact absurd e2 (by decide)
  · rw [decide_eq_false h7, Bool.false_and]
end Go.Proofs.YtjndgkbikhndoaaGreatDoor

namespace Go.Proofs.YtjndgkbikhndoaaGreatDoor
open Go.RowKit Go.ChangeShapes Go.WideShapes
set_option linter.unusedVariables false

/-- Behind a local whose block is new: both blocks. -/
theorem Res.both {w W : World} {b : Nat} {vs va : List Value} (h : Res w W b vs) : Prs w (W.alloc (.cells va.toArray 76)) W.heap.size b va vs :=
  ⟨Blk.new W va 76, h.res.alloc _, h.ch.alloc _, h.ch.size, h.ge, by have := h.res.lt; omega⟩
set_option maxHeartbeats 4000000 in
set_option maxRecDepth 100000 in
theorem rparse_slash (m s : ByteArray) (w : World) (h : s.size ≤ 8192) (k : (m.toList == [67, 79, 78, 78, 69, 67, 84]) = false) (k2 : (s.toList == [42]) = false) (k3 : Lib.hasPrefix s.data.toList [47] = true) :
    Calls Tryz.prog 83 #[.string m, .string s] w fun o w' => o = .returned (.tuple #[.agg (slashF s).1.toArray, .int .i64 (slashF s).2]) ∧ Hid (Chg [] w w') := by
  have h2 : ¬ (8192 : Int) < (s.size : Int) := by omega
  have h0 : 0 < s.size := by
    rcases Nat.eq_zero_or_pos s.size with q | q
    · have hl : s.data.toList = [] := List.eq_nil_of_length_eq_zero (by rw [toList_len]; exact q)
      rw [hl] at k3
      exact absurd k3 (by decide)
    · exact q
  have h0i : (0 : Int) < (s.size : Int) := by omega
  have hh := head47 s h0
  rw [k3] at hh
  have hno := slash_http k3
  have HTS := Lib.hid (Res.start w zeroT)
  obtain ⟨z, hz⟩ : ∃ z, locL (cutP s).data.toList (cutQ s).data.toList = z := ⟨_, rfl⟩
  have HL := Lib.hid (fun w => rlocal_any 1 (-1) ⟨#[]⟩ s w (by omega) z hz)
  have HZ := Lib.hid hz
  have hlw := Lib.hid (fun w => rlower_any (s.extract 0 7) w (by have := ext_size s 0 7; omega))
  unfold isHttp at hno
  have hs7 := fun (hq : 7 ≤ s.size) w => slice_to s 7 w hq
  rw [show ((7 : Nat) : Int) = 7 from rfl] at hs7
  generalize s.extract 0 7 = A at *
  have HNO := Lib.hid hno
  clear hz k3 hno
  obtain ⟨x, hx⟩ : ∃ x, s[0]'h0 = x := ⟨_, rfl⟩
  rw [hx] at hh
  have hq47 := hh.symm
  clear hh
  go_enter Tryz.func83, Tryz.ntmps83
  go_wp2_with fail
  have HW1 := HTS.out
  change Res w (w.alloc (.cells #[.int .i64 0, .string ⟨#[]⟩, .int .i64 0, .string ⟨#[]⟩, .string ⟨#[]⟩, .bool false] 76)) _ _ at HW1
  generalize (w.alloc (.cells #[.int .i64 0, .string ⟨#[]⟩, .int .i64 0, .string ⟨#[]⟩, .string ⟨#[]⟩, .bool false] 76)) = W1 at HW1 ⊢
  generalize w.heap.size = b at HW1 ⊢
  refine (HL.out _).mono ?_
  rintro o W2 ⟨rfl, H2⟩
  have HR2 := HW1.chg H2.out
  have HB := Lib.hid (HR2.both (va := tgt 1 ⟨#[]⟩ (-1) (cutP s) (cutQ s) (cutA s)))
  clear HW1 HR2
  unfold tgt
  have HR : Res w (W2.alloc (.cells #[.int .i64 1, .string ⟨#[]⟩, .int .i64 (-1), .string (cutP s), .string (cutQ s), .bool (cutA s)] 76)) b zeroT := ⟨HB.out.bb, HB.out.ch, HB.out.gb⟩
  cases z
  · have HQ : Hid (slashF s = (zeroT, 60)) := Lib.hid (by unfold slashF; rw [HZ.out, if_neg (by decide)])
    by_cases h7 : 7 ≤ s.size
    · have h8 : ¬ (s.size : Int) < 7 := by omega
      have hsl := hs7 h7
      have hno := HNO.out
      rw [decide_eq_true h7, Bool.true_and] at hno
      have hne : ((⟨(A.data.toList.map lowB).toArray⟩ : ByteArray).toList == [104, 116, 116, 112, 58, 47, 47]) = false := by
        rw [beq_eq_false_iff_ne]
        intro e
        refine (of_decide_eq_false hno) ?_
        show (low A).toList = _
        rw [show (low A).toList = (⟨(A.data.toList.map lowB).toArray⟩ : ByteArray).toList from rfl, e]
        rw [Lib.toList_data]
        rfl
      clear hno hs7
      go_wp2_with fail
      refine (hlw.out _).mono ?_
      rintro o W4 ⟨rfl, H4⟩
      have HR4 := HR.chg H4.out
      clear HR
      have HR := HR4
      have HPZ := Lib.hid (HR.put 0 0 ⟨#[]⟩ ⟨#[]⟩ ⟨#[]⟩ false)
      (have c0 := HR.res.cell 0 _ rfl;
       have c1 := HR.res.cell 1 _ rfl;
       have c2 := HR.res.cell 2 _ rfl;
       have c3 := HR.res.cell 3 _ rfl;
       have c4 := HR.res.cell 4 _ rfl;
       have c5 := HR.res.cell 5 _ rfl;
       have f0 := HR.res.free 0;
       have f1 := HR.res.free 1;
       have f2 := HR.res.free 2;
       have f3 := HR.res.free 3;
       have f4 := HR.res.free 4;
       have f5 := HR.res.free 5)
      clear HR HR4
      generalize (⟨(A.data.toList.map lowB).toArray⟩ : ByteArray) = LA at hne ⊢
      go_wp2
      rw [HQ.out]
      exact bodyPost_ret (results10 _ _ b 0 0 ⟨#[]⟩ ⟨#[]⟩ ⟨#[]⟩ false 60 rfl rfl HPZ.out.res) rfl ⟨rfl, HPZ.out.ch⟩
    · have h8 : (s.size : Int) < 7 := by omega
      have HPZ := Lib.hid (HR.put 0 0 ⟨#[]⟩ ⟨#[]⟩ ⟨#[]⟩ false)
      (have c0 := HR.res.cell 0 _ rfl;
       have c1 := HR.res.cell 1 _ rfl;
       have c2 := HR.res.cell 2 _ rfl;
       have c3 := HR.res.cell 3 _ rfl;
       have c4 := HR.res.cell 4 _ rfl;
       have c5 := HR.res.cell 5 _ rfl;
       have f0 := HR.res.free 0;
       have f1 := HR.res.free 1;
       have f2 := HR.res.free 2;
       have f3 := HR.res.free 3;
       have f4 := HR.res.free 4;
       have f5 := HR.res.free 5)
      clear HR hs7
      go_wp2
      rw [HQ.out]
      exact bodyPost_ret (results10 _ _ b 0 0 ⟨#[]⟩ ⟨#[]⟩ ⟨#[]⟩ false 60 rfl rfl HPZ.out.res) rfl ⟨rfl, HPZ.out.ch⟩
  · have HQ : Hid (slashF s = (tgt 1 ⟨#[]⟩ (-1) (cutP s) (cutQ s) (cutA s), 0)) := Lib.hid (by unfold slashF; rw [HZ.out, if_pos rfl])
    have HPT := Lib.hid (HR.put 1 (-1) ⟨#[]⟩ (cutP s) (cutQ s) (cutA s))
    (have c0 := HR.res.cell 0 _ rfl;
     have c1 := HR.res.cell 1 _ rfl;
     have c2 := HR.res.cell 2 _ rfl;
     have c3 := HR.res.cell 3 _ rfl;
     have c4 := HR.res.cell 4 _ rfl;
     have c5 := HR.res.cell 5 _ rfl;
     have f0 := HR.res.free 0;
     have f1 := HR.res.free 1;
     have f2 := HR.res.free 2;
     have f3 := HR.res.free 3;
     have f4 := HR.res.free 4;
     have f5 := HR.res.free 5)
    clear HR hs7
    go_wp2
    rw [HQ.out]
    exact bodyPost_ret (results10 _ _ b 1 (-1) ⟨#[]⟩ (cutP s) (cutQ s) (cutA s) 0 rfl rfl HPT.out.res) rfl ⟨rfl, HPT.out.ch⟩
end Go.Proofs.YtjndgkbikhndoaaGreatDoor

namespace Go.Proofs.YtjndgkbikhndoaaGreatDoor
open Go.RowKit Go.ChangeShapes Go.WideShapes
set_option linter.unusedVariables false

/-- No slash in front: the second look says no. -/
theorem noslash {s : ByteArray} (h : Lib.hasPrefix s.data.toList [47] = false) (h0 : 0 < s.size) : (((s[0]'h0).toNat : Int) == 47) = false := by
  rw [← head47 s h0]
  exact h
theorem lowhttp (A : ByteArray) : decide ((low A).toList = (low http7).toList) = ((⟨(A.data.toList.map lowB).toArray⟩ : ByteArray).toList == [104, 116, 116, 112, 58, 47, 47]) := by
  rw [Bool.eq_iff_iff, beq_iff_eq, decide_eq_true_eq]
  rw [show (low A).toList = (⟨(A.data.toList.map lowB).toArray⟩ : ByteArray).toList from rfl, show (low http7).toList = [104, 116, 116, 112, 58, 47, 47] by rw [Lib.toList_data]; rfl]
set_option maxHeartbeats 4000000 in
set_option maxRecDepth 100000 in
theorem rparse_other (m s : ByteArray) (w : World) (h : s.size ≤ 8192) (k : (m.toList == [67, 79, 78, 78, 69, 67, 84]) = false) (k2 : (s.toList == [42]) = false) (k3 : Lib.hasPrefix s.data.toList [47] = false) (k4 : isHttp s = false) :
    Calls Tryz.prog 83 #[.string m, .string s] w fun o w' => o = .returned (.tuple #[.agg zeroT.toArray, .int .i64 60]) ∧ Hid (Chg [] w w') := by
  have h2 : ¬ (8192 : Int) < (s.size : Int) := by omega
  by_cases h0 : 0 < s.size
  · have h0i : (0 : Int) < (s.size : Int) := by omega
    have hq47 := noslash k3 h0
    obtain ⟨x, hx⟩ : ∃ x, s[0]'h0 = x := ⟨_, rfl⟩
    rw [hx] at hq47
    clear k3
    have HTS := Lib.hid (Res.start w zeroT)
    by_cases h7 : 7 ≤ s.size
    · have h8 : ¬ (s.size : Int) < 7 := by omega
      have hsl := fun w => slice_to s 7 w h7
      rw [show ((7 : Nat) : Int) = 7 from rfl] at hsl
      have hlA := ext_size s 0 7
      unfold isHttp at k4
      rw [decide_eq_true h7, Bool.true_and, lowhttp] at k4
      generalize s.extract 0 7 = A at *
      go_enter Tryz.func83, Tryz.ntmps83
      go_wp2_with fail
      have HW1 := HTS.out
      change Res w (w.alloc (.cells #[.int .i64 0, .string ⟨#[]⟩, .int .i64 0, .string ⟨#[]⟩, .string ⟨#[]⟩, .bool false] 76)) _ _ at HW1
      generalize (w.alloc (.cells #[.int .i64 0, .string ⟨#[]⟩, .int .i64 0, .string ⟨#[]⟩, .string ⟨#[]⟩, .bool false] 76)) = W1 at HW1 ⊢
      generalize w.heap.size = b at HW1 ⊢
      refine (rlower_any A _ (by omega)).mono ?_
      rintro o W4 ⟨rfl, H4⟩
      have HR := HW1.chg H4.out
      clear HW1
      have HPZ := Lib.hid (HR.put 0 0 ⟨#[]⟩ ⟨#[]⟩ ⟨#[]⟩ false)
      (have c0 := HR.res.cell 0 _ rfl;
       have c1 := HR.res.cell 1 _ rfl;
       have c2 := HR.res.cell 2 _ rfl;
       have c3 := HR.res.cell 3 _ rfl;
       have c4 := HR.res.cell 4 _ rfl;
       have c5 := HR.res.cell 5 _ rfl;
       have f0 := HR.res.free 0;
       have f1 := HR.res.free 1;
       have f2 := HR.res.free 2;
       have f3 := HR.res.free 3;
       have f4 := HR.res.free 4;
       have f5 := HR.res.free 5)
      clear HR
      generalize (⟨(A.data.toList.map lowB).toArray⟩ : ByteArray) = LA at k4 ⊢
      go_wp2
      exact bodyPost_ret (results10 _ _ b 0 0 ⟨#[]⟩ ⟨#[]⟩ ⟨#[]⟩ false 60 rfl rfl HPZ.out.res) rfl ⟨rfl, HPZ.out.ch⟩
    · have h8 : (s.size : Int) < 7 := by omega
      go_enter Tryz.func83, Tryz.ntmps83
      go_wp2
      exact bodyPost_ret (results10 _ _ w.heap.size 0 0 ⟨#[]⟩ ⟨#[]⟩ ⟨#[]⟩ false 60 rfl rfl HTS.out.res) rfl ⟨rfl, HTS.out.ch⟩
  · have h0i : ¬ (0 : Int) < (s.size : Int) := by omega
    clear k3
    have HTS := Lib.hid (Res.start w zeroT)
    have h8 : (s.size : Int) < 7 := by omega
    go_enter Tryz.func83, Tryz.ntmps83
    go_wp2
    exact bodyPost_ret (results10 _ _ w.heap.size 0 0 ⟨#[]⟩ ⟨#[]⟩ ⟨#[]⟩ false 60 rfl rfl HTS.out.res) rfl ⟨rfl, HTS.out.ch⟩
theorem ixany_first {l : List UInt8} {i : Nat} {c : UInt8} (h : l[i]? = some c) (hc : c = 47 ∨ c = 63) (hn : ∀ (j : Nat) (d : UInt8), j < i → l[j]? = some d → d ≠ 47 ∧ d ≠ 63) : Lib.indexAny l [47, 63] = i := by
  induction l generalizing i with
  | nil => simp at h
  | cons b r ih =>
    unfold Lib.indexAny
    cases i with
    | zero =>
      have : b = c := by simpa using h
      rw [this, if_pos (by rcases hc with rfl | rfl <;> rfl)]
      rfl
    | succ i =>
      have hb := hn 0 b (by omega) rfl
      rw [if_neg (by simp [hb.1, hb.2])]
      have := ih (i := i) (by simpa using h) (fun j d hj e => hn (j + 1) d (by omega) (by simpa using e))
      rw [this, if_neg (by simp)]
      omega
theorem ixany_none {l : List UInt8} (hn : ∀ (j : Nat) (d : UInt8), l[j]? = some d → d ≠ 47 ∧ d ≠ 63) : Lib.indexAny l [47, 63] = -1 := by
  induction l with
  | nil => rfl
  | cons b r ih =>
    unfold Lib.indexAny
    have hb := hn 0 b rfl
    rw [if_neg (by simp [hb.1, hb.2]), ih (fun j d e => hn (j + 1) d (by simpa using e))]
    rfl
theorem tail_get {s : ByteArray} {i : Nat} : (s.extract 7 s.size).data.toList[i]? = s.data.toList[7 + i]? := by
  rw [data_ext, List.getElem?_take]
  split
  · rw [List.getElem?_drop]
  · rename_i h
    rw [List.getElem?_eq_none (by rw [toList_len]; omega)]
theorem ext_ext (s : ByteArray) (k : Nat) (h : 7 ≤ k) (hk : k ≤ s.size) : (s.extract 7 s.size).extract 0 (k - 7) = s.extract 7 k ∧ (s.extract 7 s.size).extract (k - 7) (s.extract 7 s.size).size = s.extract k s.size := by
  have e1 : ((s.extract 7 s.size).extract 0 (k - 7)).data.toList = (s.extract 7 k).data.toList := by
    rw [data_ext, data_ext, data_ext]
    simp only [List.drop_zero, Nat.sub_zero, List.take_take]
    congr 1
    omega
  have e2 : ((s.extract 7 s.size).extract (k - 7) (s.extract 7 s.size).size).data.toList = (s.extract k s.size).data.toList := by
    have hz : (s.extract 7 s.size).size = s.size - 7 := by
      rw [← toList_len, data_ext, List.length_take, List.length_drop, toList_len]
      omega
    rw [data_ext, data_ext, data_ext, hz, List.drop_take, List.drop_drop, List.take_take]
    rw [show 7 + (k - 7) = k by omega]
    congr 1
    omega
  exact ⟨by rw [ofList _ _ e1, ← ofList _ _ rfl], by rw [ofList _ _ e2, ← ofList _ _ rfl]⟩
theorem cutI_at (R : ByteArray) (n : Nat) (hn : n < R.size) : cutI R (n : Int) = n := by
  unfold cutI
  rw [if_neg (by omega)]
  rfl
theorem cutI_none (R : ByteArray) : cutI R (-1) = R.size := by
  unfold cutI
  rw [if_pos (by decide)]
/-- What is left behind the loop. -/
def httpE (A B : ByteArray) : List Value × Int := httpG A (rooted B)
set_option maxHeartbeats 8000000 in
set_option maxRecDepth 100000 in
theorem rparse_http (m s : ByteArray) (w : World) (h : s.size ≤ 8192) (k : (m.toList == [67, 79, 78, 78, 69, 67, 84]) = false) (k2 : (s.toList == [42]) = false) (k3 : Lib.hasPrefix s.data.toList [47] = false) (k4 : isHttp s = true) (F : List Value × Int) (hF : httpF (s.extract 7 s.size) (Lib.indexAny (s.extract 7 s.size).data.toList [47, 63]) = F) :
    Calls Tryz.prog 83 #[.string m, .string s] w fun o w' => o = .returned (.tuple #[.agg F.1.toArray, .int .i64 F.2]) ∧ Hid (Chg [] w w') := by
  have h2 : ¬ (8192 : Int) < (s.size : Int) := by omega
  have HTS := Lib.hid (Res.start w zeroT)
  have k4' := k4
  unfold isHttp at k4
  rw [Bool.and_eq_true] at k4
  have h7 := of_decide_eq_true k4.1
  have k5 := k4.2
  rw [lowhttp] at k5
  have h8 : ¬ (s.size : Int) < 7 := by omega
  have h8n : 7 ≤ (s.size : Int) := by omega
  have h0 : 0 < s.size := by omega
  have h0i : (0 : Int) < (s.size : Int) := by omega
  have hq47 := noslash k3 h0
  obtain ⟨x, hx⟩ : ∃ x, s[0]'h0 = x := ⟨_, rfl⟩
  rw [hx] at hq47
  have hsl := fun w => slice_to s 7 w h7
  rw [show ((7 : Nat) : Int) = 7 from rfl] at hsl
  have hlA := ext_size s 0 7
  generalize s.extract 0 7 = A at *
  have HFF := Lib.hid hF
  clear k3 k4 k4' hF
  go_enter Tryz.func83, Tryz.ntmps83
  go_wp2_with fail
  have HW1 := HTS.out
  change Res w (w.alloc (.cells #[.int .i64 0, .string ⟨#[]⟩, .int .i64 0, .string ⟨#[]⟩, .string ⟨#[]⟩, .bool false] 76)) _ _ at HW1
  generalize (w.alloc (.cells #[.int .i64 0, .string ⟨#[]⟩, .int .i64 0, .string ⟨#[]⟩, .string ⟨#[]⟩, .bool false] 76)) = W1 at HW1 ⊢
  generalize w.heap.size = b at HW1 ⊢
  refine (rlower_any A _ (by omega)).mono ?_
  rintro o W4 ⟨rfl, H4⟩
  have HR4 := Lib.hid (HW1.chg H4.out)
  clear HW1
  generalize (⟨(A.data.toList.map lowB).toArray⟩ : ByteArray) = LA at k5 ⊢
  go_wp2
  go_loopw [11] (fun i wr => ∃ k : Nat, 7 ≤ k ∧ k ≤ s.size ∧ i = .int .i64 k ∧ Hid (∀ (j : Nat) (d : UInt8), 7 ≤ j → j < k → s.data.toList[j]? = some d → d ≠ 47 ∧ d ≠ 63) ∧ wr = W4) (fun i _ => s.size - (intOf i).toNat)
  case atStart => exact ⟨7, by omega, by omega, rfl, Lib.hid (fun j d h1 h2 => by omega), rfl⟩
  case round =>
    obtain ⟨k, hk7, hk, rfl, HN, rfl⟩ := hrel
    have HOUT : (k = s.size ∨ ∃ c, s.data.toList[k]? = some c ∧ (c = 47 ∨ c = 63)) → Hid (F = httpE (s.extract 7 k) (s.extract k s.size)) := fun hor => Lib.hid (by
      rw [← HFF.out]
      unfold httpF httpE
      have hcut : cutI (s.extract 7 s.size) (Lib.indexAny (s.extract 7 s.size).data.toList [47, 63]) = k - 7 := by
        rcases hor with rfl | ⟨c, hc, hcc⟩
        · rw [ixany_none (fun j d hj => by
            rw [tail_get] at hj
            exact HN.out (7 + j) d (by omega) (by have := (List.getElem?_eq_some_iff.1 hj).1; rw [toList_len] at this; exact this) hj), cutI_none]
          rw [← toList_len, data_ext, List.length_take, List.length_drop, toList_len]
          omega
        · have hkl := (List.getElem?_eq_some_iff.1 hc).1
          rw [toList_len] at hkl
          rw [ixany_first (i := k - 7) (c := c) (by rw [tail_get, show 7 + (k - 7) = k by omega]; exact hc) hcc (fun j d hj hd => by
            rw [tail_get] at hd
            exact HN.out (7 + j) d (by omega) (by omega) hd), cutI_at]
          rw [← toList_len, data_ext, List.length_take, List.length_drop, toList_len]
          omega
      obtain ⟨e1, e2⟩ := ext_ext s k hk7 hk
      rw [hcut, e1, e2])
    by_cases hlt : k < s.size
    · have hlt2 : (k : Int) < (s.size : Int) := by omega
      have hcl := toList_get s k hlt
      obtain ⟨c, hc⟩ : ∃ c, s[k]'hlt = c := ⟨_, rfl⟩
      rw [hc] at hcl
      by_cases hc47 : c = 47
      · have hq : ((c.toNat : Int) != 47) = false := by rw [hc47]; rfl
        (have HF0 := HOUT (.inr ⟨c, hcl, .inl hc47⟩);
         have q1 := fun w => slice_run s 7 k w (by omega) (by omega);
         rw [show ((7 : Nat) : Int) = 7 from rfl] at q1;
         have q2 := fun w => slice_from s k w (by omega);
         have l1 := ext_size s 7 k;
         have l2 := ext_size s k s.size;
         generalize s.extract 7 k = A2 at *;
         generalize s.extract k s.size = B at *;
         obtain ⟨hh, p, e, hz⟩ : ∃ hh p e, hostF A2 = (hh, p, e) := ⟨_, _, _, rfl⟩;
         have HZ := Lib.hid hz;
         have HF : Hid (F = httpG A2 (rooted B)) := HF0;
         clear hz HF0 HOUT HN HFF;
         try clear hcl;
         try clear hc47;
         try clear hc63;
         try clear hke;
         go_wp2_with fail;
         refine (rHost_any A2 _ (by omega) hh p e HZ.out).mono ?_;
         rintro o W5 ⟨rfl, H5⟩;
         have HR1 := Lib.hid (HR4.out.chg H5.out);
         by_cases k1 : e = 0;
         · (subst k1;
            by_cases hb0 : 0 < B.size;
            · (have hb0i : (0 : Int) < (B.size : Int) := by omega;
               have hbe : B.toList.isEmpty = false := by (rw [Lib.toList_data, List.isEmpty_eq_false_iff]; intro q; rw [← toList_len, q] at hb0; exact absurd hb0 (by decide));
               have hy47 := head47 B hb0;
               obtain ⟨y, hy⟩ : ∃ y, B[0]'hb0 = y := ⟨_, rfl⟩;
               rw [hy] at hy47;
               cases hqq : Lib.hasPrefix B.data.toList [47];
               · (rw [hqq] at hy47;
                  have hyn : ((y.toNat : Int) != 47) = true := by (unfold bne; rw [← hy47]; rfl);
                  clear hy47;
                  (have hrb : rooted B = ⟨#[47]⟩ ++ B := by (unfold rooted; rw [hqq]; rfl);
                   have hrl := rooted_len B;
                   have hcat : ¬ (9223372036854775807 < (⟨#[47]⟩ : ByteArray).size + B.size) := by (show ¬ (9223372036854775807 < 1 + B.size); omega);
                   rw [hrb] at hrl HF;
                   have hrl : (⟨#[47]⟩ ++ B : ByteArray).size ≤ 1048576 := by omega;
                   clear hrb hqq;
                   go_wp2_with fail;
                   generalize (⟨#[47]⟩ ++ B : ByteArray) = r at *;
                   (obtain ⟨z, hzz⟩ : ∃ z, locL (cutP r).data.toList (cutQ r).data.toList = z := ⟨_, rfl⟩;
                    have HZZ := Lib.hid hzz;
                    have HLO := Lib.hid (fun w => rlocal_any 2 p hh r w hrl z hzz);
                    clear hzz;
                    refine (HLO.out _).mono ?_;
                    rintro o W6 ⟨rfl, H6⟩;
                    have HR2 := HR1.out.chg H6.out;
                    have HB := Lib.hid (HR2.both (va := tgt 2 hh p (cutP r) (cutQ r) (cutA r)));
                    clear HR2;
                    unfold tgt;
                    have HR : Res w (W6.alloc (.cells #[.int .i64 2, .string hh, .int .i64 p, .string (cutP r), .string (cutQ r), .bool (cutA r)] 76)) b zeroT := ⟨HB.out.bb, HB.out.ch, HB.out.gb⟩;
                    have HPZ := Lib.hid (HR.put 0 0 ⟨#[]⟩ ⟨#[]⟩ ⟨#[]⟩ false);
                    have HPT := Lib.hid (HR.put 2 p hh (cutP r) (cutQ r) (cutA r));
                    (have c0 := HR.res.cell 0 _ rfl;
                     have c1 := HR.res.cell 1 _ rfl;
                     have c2 := HR.res.cell 2 _ rfl;
                     have c3 := HR.res.cell 3 _ rfl;
                     have c4 := HR.res.cell 4 _ rfl;
                     have c5 := HR.res.cell 5 _ rfl;
                     have f0 := HR.res.free 0;
                     have f1 := HR.res.free 1;
                     have f2 := HR.res.free 2;
                     have f3 := HR.res.free 3;
                     have f4 := HR.res.free 4;
                     have f5 := HR.res.free 5);
                    clear HR;
                    cases z;
                    · (have HQ := Lib.hid (show F = (zeroT, 60) from by rw [HF.out]; unfold httpG; rw [HZ.out, HZZ.out, if_neg (fun h => h rfl), if_neg (by decide)]);
                       go_wp2;
                       refine bodyPost_ret (results10 _ _ b 0 0 ⟨#[]⟩ ⟨#[]⟩ ⟨#[]⟩ false 60 rfl rfl HPZ.out.res) rfl ⟨?_, HPZ.out.ch⟩;
                       rw [HQ.out]; rfl)
                    · (have HQ := Lib.hid (show F = (tgt 2 hh p (cutP r) (cutQ r) (cutA r), 0) from by rw [HF.out]; unfold httpG; rw [HZ.out, HZZ.out, if_neg (fun h => h rfl), if_pos rfl]);
                       go_wp2;
                       refine bodyPost_ret (results10 _ _ b 2 p hh (cutP r) (cutQ r) (cutA r) 0 rfl rfl HPT.out.res) rfl ⟨?_, HPT.out.ch⟩;
                       rw [HQ.out]))))
               · (rw [hqq] at hy47;
                  have hyn : ((y.toNat : Int) != 47) = false := by (unfold bne; rw [← hy47]; rfl);
                  have hrb : rooted B = B := by (unfold rooted; rw [hqq, if_pos rfl]);
                  rw [hrb] at HF;
                  have hrl : B.size ≤ 1048576 := by omega;
                  clear hy47 hrb hqq;
                  go_wp2_with fail;
                  generalize B = r at *;
                  (obtain ⟨z, hzz⟩ : ∃ z, locL (cutP r).data.toList (cutQ r).data.toList = z := ⟨_, rfl⟩;
                   have HZZ := Lib.hid hzz;
                   have HLO := Lib.hid (fun w => rlocal_any 2 p hh r w hrl z hzz);
                   clear hzz;
                   refine (HLO.out _).mono ?_;
                   rintro o W6 ⟨rfl, H6⟩;
                   have HR2 := HR1.out.chg H6.out;
                   have HB := Lib.hid (HR2.both (va := tgt 2 hh p (cutP r) (cutQ r) (cutA r)));
                   clear HR2;
                   unfold tgt;
                   have HR : Res w (W6.alloc (.cells #[.int .i64 2, .string hh, .int .i64 p, .string (cutP r), .string (cutQ r), .bool (cutA r)] 76)) b zeroT := ⟨HB.out.bb, HB.out.ch, HB.out.gb⟩;
                   have HPZ := Lib.hid (HR.put 0 0 ⟨#[]⟩ ⟨#[]⟩ ⟨#[]⟩ false);
                   have HPT := Lib.hid (HR.put 2 p hh (cutP r) (cutQ r) (cutA r));
                   (have c0 := HR.res.cell 0 _ rfl;
                    have c1 := HR.res.cell 1 _ rfl;
                    have c2 := HR.res.cell 2 _ rfl;
                    have c3 := HR.res.cell 3 _ rfl;
                    have c4 := HR.res.cell 4 _ rfl;
                    have c5 := HR.res.cell 5 _ rfl;
                    have f0 := HR.res.free 0;
                    have f1 := HR.res.free 1;
                    have f2 := HR.res.free 2;
                    have f3 := HR.res.free 3;
                    have f4 := HR.res.free 4;
                    have f5 := HR.res.free 5);
                   clear HR;
                   cases z;
                   · (have HQ := Lib.hid (show F = (zeroT, 60) from by rw [HF.out]; unfold httpG; rw [HZ.out, HZZ.out, if_neg (fun h => h rfl), if_neg (by decide)]);
                      go_wp2;
                      refine bodyPost_ret (results10 _ _ b 0 0 ⟨#[]⟩ ⟨#[]⟩ ⟨#[]⟩ false 60 rfl rfl HPZ.out.res) rfl ⟨?_, HPZ.out.ch⟩;
                      rw [HQ.out]; rfl)
                   · (have HQ := Lib.hid (show F = (tgt 2 hh p (cutP r) (cutQ r) (cutA r), 0) from by rw [HF.out]; unfold httpG; rw [HZ.out, HZZ.out, if_neg (fun h => h rfl), if_pos rfl]);
                      go_wp2;
                      refine bodyPost_ret (results10 _ _ b 2 p hh (cutP r) (cutQ r) (cutA r) 0 rfl rfl HPT.out.res) rfl ⟨?_, HPT.out.ch⟩;
                      rw [HQ.out]))))
            · (have hb0i : ¬ (0 : Int) < (B.size : Int) := by omega;
               have hbl : B.data.toList = [] := List.eq_nil_of_length_eq_zero (by rw [toList_len]; omega);
               have hbe : B.toList.isEmpty = true := by (rw [Lib.toList_data, hbl]; rfl);
               have hqq : Lib.hasPrefix B.data.toList [47] = false := by (rw [hbl]; rfl);
               clear hbl;
               (have hrb : rooted B = ⟨#[47]⟩ ++ B := by (unfold rooted; rw [hqq]; rfl);
                have hrl := rooted_len B;
                have hcat : ¬ (9223372036854775807 < (⟨#[47]⟩ : ByteArray).size + B.size) := by (show ¬ (9223372036854775807 < 1 + B.size); omega);
                rw [hrb] at hrl HF;
                have hrl : (⟨#[47]⟩ ++ B : ByteArray).size ≤ 1048576 := by omega;
                clear hrb hqq;
                go_wp2_with fail;
                generalize (⟨#[47]⟩ ++ B : ByteArray) = r at *;
                (obtain ⟨z, hzz⟩ : ∃ z, locL (cutP r).data.toList (cutQ r).data.toList = z := ⟨_, rfl⟩;
                 have HZZ := Lib.hid hzz;
                 have HLO := Lib.hid (fun w => rlocal_any 2 p hh r w hrl z hzz);
                 clear hzz;
                 refine (HLO.out _).mono ?_;
                 rintro o W6 ⟨rfl, H6⟩;
                 have HR2 := HR1.out.chg H6.out;
                 have HB := Lib.hid (HR2.both (va := tgt 2 hh p (cutP r) (cutQ r) (cutA r)));
                 clear HR2;
                 unfold tgt;
                 have HR : Res w (W6.alloc (.cells #[.int .i64 2, .string hh, .int .i64 p, .string (cutP r), .string (cutQ r), .bool (cutA r)] 76)) b zeroT := ⟨HB.out.bb, HB.out.ch, HB.out.gb⟩;
                 have HPZ := Lib.hid (HR.put 0 0 ⟨#[]⟩ ⟨#[]⟩ ⟨#[]⟩ false);
                 have HPT := Lib.hid (HR.put 2 p hh (cutP r) (cutQ r) (cutA r));
                 (have c0 := HR.res.cell 0 _ rfl;
                  have c1 := HR.res.cell 1 _ rfl;
                  have c2 := HR.res.cell 2 _ rfl;
                  have c3 := HR.res.cell 3 _ rfl;
                  have c4 := HR.res.cell 4 _ rfl;
                  have c5 := HR.res.cell 5 _ rfl;
                  have f0 := HR.res.free 0;
                  have f1 := HR.res.free 1;
                  have f2 := HR.res.free 2;
                  have f3 := HR.res.free 3;
                  have f4 := HR.res.free 4;
                  have f5 := HR.res.free 5);
                 clear HR;
                 cases z;
                 · (have HQ := Lib.hid (show F = (zeroT, 60) from by rw [HF.out]; unfold httpG; rw [HZ.out, HZZ.out, if_neg (fun h => h rfl), if_neg (by decide)]);
                    go_wp2;
                    refine bodyPost_ret (results10 _ _ b 0 0 ⟨#[]⟩ ⟨#[]⟩ ⟨#[]⟩ false 60 rfl rfl HPZ.out.res) rfl ⟨?_, HPZ.out.ch⟩;
                    rw [HQ.out]; rfl)
                 · (have HQ := Lib.hid (show F = (tgt 2 hh p (cutP r) (cutQ r) (cutA r), 0) from by rw [HF.out]; unfold httpG; rw [HZ.out, HZZ.out, if_neg (fun h => h rfl), if_pos rfl]);
                    go_wp2;
                    refine bodyPost_ret (results10 _ _ b 2 p hh (cutP r) (cutQ r) (cutA r) 0 rfl rfl HPT.out.res) rfl ⟨?_, HPT.out.ch⟩;
                    rw [HQ.out])))))
         · (have HQ := Lib.hid (show F = (zeroT, e) from by rw [HF.out]; unfold httpG; rw [HZ.out, if_pos k1]);
            have HR := HR1.out;
            have HPZ := Lib.hid (HR.put 0 0 ⟨#[]⟩ ⟨#[]⟩ ⟨#[]⟩ false);
            (have c0 := HR.res.cell 0 _ rfl;
             have c1 := HR.res.cell 1 _ rfl;
             have c2 := HR.res.cell 2 _ rfl;
             have c3 := HR.res.cell 3 _ rfl;
             have c4 := HR.res.cell 4 _ rfl;
             have c5 := HR.res.cell 5 _ rfl;
             have f0 := HR.res.free 0;
             have f1 := HR.res.free 1;
             have f2 := HR.res.free 2;
             have f3 := HR.res.free 3;
             have f4 := HR.res.free 4;
             have f5 := HR.res.free 5);
            have k1b : (e == 0) = false := beq_eq_false_iff_ne.2 k1;
            clear HR;
            go_wp2;
            refine bodyPost_ret (results10 _ _ b 0 0 ⟨#[]⟩ ⟨#[]⟩ ⟨#[]⟩ false e rfl rfl HPZ.out.res) rfl ⟨?_, HPZ.out.ch⟩;
            rw [HQ.out]; rfl))
      · have hq : ((c.toNat : Int) != 47) = true := bne_iff_ne.2 (fun e => hc47 (UInt8.toNat_inj.1 (by have : (47 : UInt8).toNat = 47 := rfl; omega)))
        by_cases hc63 : c = 63
        · have hq6 : ((c.toNat : Int) != 63) = false := by rw [hc63]; rfl
          (have HF0 := HOUT (.inr ⟨c, hcl, .inr hc63⟩);
           have q1 := fun w => slice_run s 7 k w (by omega) (by omega);
           rw [show ((7 : Nat) : Int) = 7 from rfl] at q1;
           have q2 := fun w => slice_from s k w (by omega);
           have l1 := ext_size s 7 k;
           have l2 := ext_size s k s.size;
           generalize s.extract 7 k = A2 at *;
           generalize s.extract k s.size = B at *;
           obtain ⟨hh, p, e, hz⟩ : ∃ hh p e, hostF A2 = (hh, p, e) := ⟨_, _, _, rfl⟩;
           have HZ := Lib.hid hz;
           have HF : Hid (F = httpG A2 (rooted B)) := HF0;
           clear hz HF0 HOUT HN HFF;
           try clear hcl;
           try clear hc47;
           try clear hc63;
           try clear hke;
           go_wp2_with fail;
           refine (rHost_any A2 _ (by omega) hh p e HZ.out).mono ?_;
           rintro o W5 ⟨rfl, H5⟩;
           have HR1 := Lib.hid (HR4.out.chg H5.out);
           by_cases k1 : e = 0;
           · (subst k1;
              by_cases hb0 : 0 < B.size;
              · (have hb0i : (0 : Int) < (B.size : Int) := by omega;
                 have hbe : B.toList.isEmpty = false := by (rw [Lib.toList_data, List.isEmpty_eq_false_iff]; intro q; rw [← toList_len, q] at hb0; exact absurd hb0 (by decide));
                 have hy47 := head47 B hb0;
                 obtain ⟨y, hy⟩ : ∃ y, B[0]'hb0 = y := ⟨_, rfl⟩;
                 rw [hy] at hy47;
                 cases hqq : Lib.hasPrefix B.data.toList [47];
                 · (rw [hqq] at hy47;
                    have hyn : ((y.toNat : Int) != 47) = true := by (unfold bne; rw [← hy47]; rfl);
                    clear hy47;
                    (have hrb : rooted B = ⟨#[47]⟩ ++ B := by (unfold rooted; rw [hqq]; rfl);
                     have hrl := rooted_len B;
                     have hcat : ¬ (9223372036854775807 < (⟨#[47]⟩ : ByteArray).size + B.size) := by (show ¬ (9223372036854775807 < 1 + B.size); omega);
                     rw [hrb] at hrl HF;
                     have hrl : (⟨#[47]⟩ ++ B : ByteArray).size ≤ 1048576 := by omega;
                     clear hrb hqq;
                     go_wp2_with fail;
                     generalize (⟨#[47]⟩ ++ B : ByteArray) = r at *;
                     (obtain ⟨z, hzz⟩ : ∃ z, locL (cutP r).data.toList (cutQ r).data.toList = z := ⟨_, rfl⟩;
                      have HZZ := Lib.hid hzz;
                      have HLO := Lib.hid (fun w => rlocal_any 2 p hh r w hrl z hzz);
                      clear hzz;
                      refine (HLO.out _).mono ?_;
                      rintro o W6 ⟨rfl, H6⟩;
                      have HR2 := HR1.out.chg H6.out;
                      have HB := Lib.hid (HR2.both (va := tgt 2 hh p (cutP r) (cutQ r) (cutA r)));
                      clear HR2;
                      unfold tgt;
                      have HR : Res w (W6.alloc (.cells #[.int .i64 2, .string hh, .int .i64 p, .string (cutP r), .string (cutQ r), .bool (cutA r)] 76)) b zeroT := ⟨HB.out.bb, HB.out.ch, HB.out.gb⟩;
                      have HPZ := Lib.hid (HR.put 0 0 ⟨#[]⟩ ⟨#[]⟩ ⟨#[]⟩ false);
                      have HPT := Lib.hid (HR.put 2 p hh (cutP r) (cutQ r) (cutA r));
                      (have c0 := HR.res.cell 0 _ rfl;
                       have c1 := HR.res.cell 1 _ rfl;
                       have c2 := HR.res.cell 2 _ rfl;
                       have c3 := HR.res.cell 3 _ rfl;
                       have c4 := HR.res.cell 4 _ rfl;
                       have c5 := HR.res.cell 5 _ rfl;
                       have f0 := HR.res.free 0;
                       have f1 := HR.res.free 1;
                       have f2 := HR.res.free 2;
                       have f3 := HR.res.free 3;
                       have f4 := HR.res.free 4;
                       have f5 := HR.res.free 5);
                      clear HR;
                      cases z;
                      · (have HQ := Lib.hid (show F = (zeroT, 60) from by rw [HF.out]; unfold httpG; rw [HZ.out, HZZ.out, if_neg (fun h => h rfl), if_neg (by decide)]);
                         go_wp2;
                         refine bodyPost_ret (results10 _ _ b 0 0 ⟨#[]⟩ ⟨#[]⟩ ⟨#[]⟩ false 60 rfl rfl HPZ.out.res) rfl ⟨?_, HPZ.out.ch⟩;
                         rw [HQ.out]; rfl)
                      · (have HQ := Lib.hid (show F = (tgt 2 hh p (cutP r) (cutQ r) (cutA r), 0) from by rw [HF.out]; unfold httpG; rw [HZ.out, HZZ.out, if_neg (fun h => h rfl), if_pos rfl]);
                         go_wp2;
                         refine bodyPost_ret (results10 _ _ b 2 p hh (cutP r) (cutQ r) (cutA r) 0 rfl rfl HPT.out.res) rfl ⟨?_, HPT.out.ch⟩;
                         rw [HQ.out]))))
                 · (rw [hqq] at hy47;
                    have hyn : ((y.toNat : Int) != 47) = false := by (unfold bne; rw [← hy47]; rfl);
                    have hrb : rooted B = B := by (unfold rooted; rw [hqq, if_pos rfl]);
                    rw [hrb] at HF;
                    have hrl : B.size ≤ 1048576 := by omega;
                    clear hy47 hrb hqq;
                    go_wp2_with fail;
                    generalize B = r at *;
                    (obtain ⟨z, hzz⟩ : ∃ z, locL (cutP r).data.toList (cutQ r).data.toList = z := ⟨_, rfl⟩;
                     have HZZ := Lib.hid hzz;
                     have HLO := Lib.hid (fun w => rlocal_any 2 p hh r w hrl z hzz);
                     clear hzz;
                     refine (HLO.out _).mono ?_;
                     rintro o W6 ⟨rfl, H6⟩;
                     have HR2 := HR1.out.chg H6.out;
                     have HB := Lib.hid (HR2.both (va := tgt 2 hh p (cutP r) (cutQ r) (cutA r)));
                     clear HR2;
                     unfold tgt;
                     have HR : Res w (W6.alloc (.cells #[.int .i64 2, .string hh, .int .i64 p, .string (cutP r), .string (cutQ r), .bool (cutA r)] 76)) b zeroT := ⟨HB.out.bb, HB.out.ch, HB.out.gb⟩;
                     have HPZ := Lib.hid (HR.put 0 0 ⟨#[]⟩ ⟨#[]⟩ ⟨#[]⟩ false);
                     have HPT := Lib.hid (HR.put 2 p hh (cutP r) (cutQ r) (cutA r));
                     (have c0 := HR.res.cell 0 _ rfl;
                      have c1 := HR.res.cell 1 _ rfl;
                      have c2 := HR.res.cell 2 _ rfl;
                      have c3 := HR.res.cell 3 _ rfl;
                      have c4 := HR.res.cell 4 _ rfl;
                      have c5 := HR.res.cell 5 _ rfl;
                      have f0 := HR.res.free 0;
                      have f1 := HR.res.free 1;
                      have f2 := HR.res.free 2;
                      have f3 := HR.res.free 3;
                      have f4 := HR.res.free 4;
                      have f5 := HR.res.free 5);
                     clear HR;
                     cases z;
                     · (have HQ := Lib.hid (show F = (zeroT, 60) from by rw [HF.out]; unfold httpG; rw [HZ.out, HZZ.out, if_neg (fun h => h rfl), if_neg (by decide)]);
                        go_wp2;
                        refine bodyPost_ret (results10 _ _ b 0 0 ⟨#[]⟩ ⟨#[]⟩ ⟨#[]⟩ false 60 rfl rfl HPZ.out.res) rfl ⟨?_, HPZ.out.ch⟩;
                        rw [HQ.out]; rfl)
                     · (have HQ := Lib.hid (show F = (tgt 2 hh p (cutP r) (cutQ r) (cutA r), 0) from by rw [HF.out]; unfold httpG; rw [HZ.out, HZZ.out, if_neg (fun h => h rfl), if_pos rfl]);
                        go_wp2;
                        refine bodyPost_ret (results10 _ _ b 2 p hh (cutP r) (cutQ r) (cutA r) 0 rfl rfl HPT.out.res) rfl ⟨?_, HPT.out.ch⟩;
                        rw [HQ.out]))))
              · (have hb0i : ¬ (0 : Int) < (B.size : Int) := by omega;
                 have hbl : B.data.toList = [] := List.eq_nil_of_length_eq_zero (by rw [toList_len]; omega);
                 have hbe : B.toList.isEmpty = true := by (rw [Lib.toList_data, hbl]; rfl);
                 have hqq : Lib.hasPrefix B.data.toList [47] = false := by (rw [hbl]; rfl);
                 clear hbl;
                 (have hrb : rooted B = ⟨#[47]⟩ ++ B := by (unfold rooted; rw [hqq]; rfl);
                  have hrl := rooted_len B;
                  have hcat : ¬ (9223372036854775807 < (⟨#[47]⟩ : ByteArray).size + B.size) := by (show ¬ (9223372036854775807 < 1 + B.size); omega);
                  rw [hrb] at hrl HF;
                  have hrl : (⟨#[47]⟩ ++ B : ByteArray).size ≤ 1048576 := by omega;
                  clear hrb hqq;
                  go_wp2_with fail;
                  generalize (⟨#[47]⟩ ++ B : ByteArray) = r at *;
                  (obtain ⟨z, hzz⟩ : ∃ z, locL (cutP r).data.toList (cutQ r).data.toList = z := ⟨_, rfl⟩;
                   have HZZ := Lib.hid hzz;
                   have HLO := Lib.hid (fun w => rlocal_any 2 p hh r w hrl z hzz);
                   clear hzz;
                   refine (HLO.out _).mono ?_;
                   rintro o W6 ⟨rfl, H6⟩;
                   have HR2 := HR1.out.chg H6.out;
                   have HB := Lib.hid (HR2.both (va := tgt 2 hh p (cutP r) (cutQ r) (cutA r)));
                   clear HR2;
                   unfold tgt;
                   have HR : Res w (W6.alloc (.cells #[.int .i64 2, .string hh, .int .i64 p, .string (cutP r), .string (cutQ r), .bool (cutA r)] 76)) b zeroT := ⟨HB.out.bb, HB.out.ch, HB.out.gb⟩;
                   have HPZ := Lib.hid (HR.put 0 0 ⟨#[]⟩ ⟨#[]⟩ ⟨#[]⟩ false);
                   have HPT := Lib.hid (HR.put 2 p hh (cutP r) (cutQ r) (cutA r));
                   (have c0 := HR.res.cell 0 _ rfl;
                    have c1 := HR.res.cell 1 _ rfl;
                    have c2 := HR.res.cell 2 _ rfl;
                    have c3 := HR.res.cell 3 _ rfl;
                    have c4 := HR.res.cell 4 _ rfl;
                    have c5 := HR.res.cell 5 _ rfl;
                    have f0 := HR.res.free 0;
                    have f1 := HR.res.free 1;
                    have f2 := HR.res.free 2;
                    have f3 := HR.res.free 3;
                    have f4 := HR.res.free 4;
                    have f5 := HR.res.free 5);
                   clear HR;
                   cases z;
                   · (have HQ := Lib.hid (show F = (zeroT, 60) from by rw [HF.out]; unfold httpG; rw [HZ.out, HZZ.out, if_neg (fun h => h rfl), if_neg (by decide)]);
                      go_wp2;
                      refine bodyPost_ret (results10 _ _ b 0 0 ⟨#[]⟩ ⟨#[]⟩ ⟨#[]⟩ false 60 rfl rfl HPZ.out.res) rfl ⟨?_, HPZ.out.ch⟩;
                      rw [HQ.out]; rfl)
                   · (have HQ := Lib.hid (show F = (tgt 2 hh p (cutP r) (cutQ r) (cutA r), 0) from by rw [HF.out]; unfold httpG; rw [HZ.out, HZZ.out, if_neg (fun h => h rfl), if_pos rfl]);
                      go_wp2;
                      refine bodyPost_ret (results10 _ _ b 2 p hh (cutP r) (cutQ r) (cutA r) 0 rfl rfl HPT.out.res) rfl ⟨?_, HPT.out.ch⟩;
                      rw [HQ.out])))))
           · (have HQ := Lib.hid (show F = (zeroT, e) from by rw [HF.out]; unfold httpG; rw [HZ.out, if_pos k1]);
              have HR := HR1.out;
              have HPZ := Lib.hid (HR.put 0 0 ⟨#[]⟩ ⟨#[]⟩ ⟨#[]⟩ false);
              (have c0 := HR.res.cell 0 _ rfl;
               have c1 := HR.res.cell 1 _ rfl;
               have c2 := HR.res.cell 2 _ rfl;
               have c3 := HR.res.cell 3 _ rfl;
               have c4 := HR.res.cell 4 _ rfl;
               have c5 := HR.res.cell 5 _ rfl;
               have f0 := HR.res.free 0;
               have f1 := HR.res.free 1;
               have f2 := HR.res.free 2;
               have f3 := HR.res.free 3;
               have f4 := HR.res.free 4;
               have f5 := HR.res.free 5);
              have k1b : (e == 0) = false := beq_eq_false_iff_ne.2 k1;
              clear HR;
              go_wp2;
              refine bodyPost_ret (results10 _ _ b 0 0 ⟨#[]⟩ ⟨#[]⟩ ⟨#[]⟩ false e rfl rfl HPZ.out.res) rfl ⟨?_, HPZ.out.ch⟩;
              rw [HQ.out]; rfl))
        · have hq6 : ((c.toNat : Int) != 63) = true := bne_iff_ne.2 (fun e => hc63 (UInt8.toNat_inj.1 (by have : (63 : UInt8).toNat = 63 := rfl; omega)))
          have HN2 := Lib.hid (show ∀ (j : Nat) (d : UInt8), 7 ≤ j → j < k + 1 → s.data.toList[j]? = some d → d ≠ 47 ∧ d ≠ 63 from fun j d h1 hj hd => by
            rcases Nat.lt_or_ge j k with q | q
            · exact HN.out j d h1 q hd
            · obtain rfl : j = k := by omega
              rw [hcl] at hd
              injection hd with hd
              rw [← hd]
              exact ⟨hc47, hc63⟩)
          clear hcl hc47 hc63 HN HOUT
          go_wp2
          go_roundw
          case rel => exact ⟨k + 1, by omega, by omega, by go_num, HN2, by first | rfl | trivial⟩
          case measure => simp [intOf]; omega
    · have hke : k = s.size := by omega
      have hlt2 : ¬ (k : Int) < (s.size : Int) := by omega
      (have HF0 := HOUT (.inl hke);
       have q1 := fun w => slice_run s 7 k w (by omega) (by omega);
       rw [show ((7 : Nat) : Int) = 7 from rfl] at q1;
       have q2 := fun w => slice_from s k w (by omega);
       have l1 := ext_size s 7 k;
       have l2 := ext_size s k s.size;
       generalize s.extract 7 k = A2 at *;
       generalize s.extract k s.size = B at *;
       obtain ⟨hh, p, e, hz⟩ : ∃ hh p e, hostF A2 = (hh, p, e) := ⟨_, _, _, rfl⟩;
       have HZ := Lib.hid hz;
       have HF : Hid (F = httpG A2 (rooted B)) := HF0;
       clear hz HF0 HOUT HN HFF;
       try clear hcl;
       try clear hc47;
       try clear hc63;
       try clear hke;
       go_wp2_with fail;
       refine (rHost_any A2 _ (by omega) hh p e HZ.out).mono ?_;
       rintro o W5 ⟨rfl, H5⟩;
       have HR1 := Lib.hid (HR4.out.chg H5.out);
       by_cases k1 : e = 0;
       · (subst k1;
          by_cases hb0 : 0 < B.size;
          · (have hb0i : (0 : Int) < (B.size : Int) := by omega;
             have hbe : B.toList.isEmpty = false := by (rw [Lib.toList_data, List.isEmpty_eq_false_iff]; intro q; rw [← toList_len, q] at hb0; exact absurd hb0 (by decide));
             have hy47 := head47 B hb0;
             obtain ⟨y, hy⟩ : ∃ y, B[0]'hb0 = y := ⟨_, rfl⟩;
             rw [hy] at hy47;
             cases hqq : Lib.hasPrefix B.data.toList [47];
             · (rw [hqq] at hy47;
                have hyn : ((y.toNat : Int) != 47) = true := by (unfold bne; rw [← hy47]; rfl);
                clear hy47;
                (have hrb : rooted B = ⟨#[47]⟩ ++ B := by (unfold rooted; rw [hqq]; rfl);
                 have hrl := rooted_len B;
                 have hcat : ¬ (9223372036854775807 < (⟨#[47]⟩ : ByteArray).size + B.size) := by (show ¬ (9223372036854775807 < 1 + B.size); omega);
                 rw [hrb] at hrl HF;
                 have hrl : (⟨#[47]⟩ ++ B : ByteArray).size ≤ 1048576 := by omega;
                 clear hrb hqq;
                 go_wp2_with fail;
                 generalize (⟨#[47]⟩ ++ B : ByteArray) = r at *;
                 (obtain ⟨z, hzz⟩ : ∃ z, locL (cutP r).data.toList (cutQ r).data.toList = z := ⟨_, rfl⟩;
                  have HZZ := Lib.hid hzz;
                  have HLO := Lib.hid (fun w => rlocal_any 2 p hh r w hrl z hzz);
                  clear hzz;
                  refine (HLO.out _).mono ?_;
                  rintro o W6 ⟨rfl, H6⟩;
                  have HR2 := HR1.out.chg H6.out;
                  have HB := Lib.hid (HR2.both (va := tgt 2 hh p (cutP r) (cutQ r) (cutA r)));
                  clear HR2;
                  unfold tgt;
                  have HR : Res w (W6.alloc (.cells #[.int .i64 2, .string hh, .int .i64 p, .string (cutP r), .string (cutQ r), .bool (cutA r)] 76)) b zeroT := ⟨HB.out.bb, HB.out.ch, HB.out.gb⟩;
                  have HPZ := Lib.hid (HR.put 0 0 ⟨#[]⟩ ⟨#[]⟩ ⟨#[]⟩ false);
                  have HPT := Lib.hid (HR.put 2 p hh (cutP r) (cutQ r) (cutA r));
                  (have c0 := HR.res.cell 0 _ rfl;
                   have c1 := HR.res.cell 1 _ rfl;
                   have c2 := HR.res.cell 2 _ rfl;
                   have c3 := HR.res.cell 3 _ rfl;
                   have c4 := HR.res.cell 4 _ rfl;
                   have c5 := HR.res.cell 5 _ rfl;
                   have f0 := HR.res.free 0;
                   have f1 := HR.res.free 1;
                   have f2 := HR.res.free 2;
                   have f3 := HR.res.free 3;
                   have f4 := HR.res.free 4;
                   have f5 := HR.res.free 5);
                  clear HR;
                  cases z;
                  · (have HQ := Lib.hid (show F = (zeroT, 60) from by rw [HF.out]; unfold httpG; rw [HZ.out, HZZ.out, if_neg (fun h => h rfl), if_neg (by decide)]);
                     go_wp2;
                     refine bodyPost_ret (results10 _ _ b 0 0 ⟨#[]⟩ ⟨#[]⟩ ⟨#[]⟩ false 60 rfl rfl HPZ.out.res) rfl ⟨?_, HPZ.out.ch⟩;
                     rw [HQ.out]; rfl)
                  · (have HQ := Lib.hid (show F = (tgt 2 hh p (cutP r) (cutQ r) (cutA r), 0) from by rw [HF.out]; unfold httpG; rw [HZ.out, HZZ.out, if_neg (fun h => h rfl), if_pos rfl]);
                     go_wp2;
                     refine bodyPost_ret (results10 _ _ b 2 p hh (cutP r) (cutQ r) (cutA r) 0 rfl rfl HPT.out.res) rfl ⟨?_, HPT.out.ch⟩;
                     rw [HQ.out]))))
             · (rw [hqq] at hy47;
                have hyn : ((y.toNat : Int) != 47) = false := by (unfold bne; rw [← hy47]; rfl);
                have hrb : rooted B = B := by (unfold rooted; rw [hqq, if_pos rfl]);
                rw [hrb] at HF;
                have hrl : B.size ≤ 1048576 := by omega;
                clear hy47 hrb hqq;
                go_wp2_with fail;
                generalize B = r at *;
                (obtain ⟨z, hzz⟩ : ∃ z, locL (cutP r).data.toList (cutQ r).data.toList = z := ⟨_, rfl⟩;
                 have HZZ := Lib.hid hzz;
                 have HLO := Lib.hid (fun w => rlocal_any 2 p hh r w hrl z hzz);
                 clear hzz;
                 refine (HLO.out _).mono ?_;
                 rintro o W6 ⟨rfl, H6⟩;
                 have HR2 := HR1.out.chg H6.out;
                 have HB := Lib.hid (HR2.both (va := tgt 2 hh p (cutP r) (cutQ r) (cutA r)));
                 clear HR2;
                 unfold tgt;
                 have HR : Res w (W6.alloc (.cells #[.int .i64 2, .string hh, .int .i64 p, .string (cutP r), .string (cutQ r), .bool (cutA r)] 76)) b zeroT := ⟨HB.out.bb, HB.out.ch, HB.out.gb⟩;
                 have HPZ := Lib.hid (HR.put 0 0 ⟨#[]⟩ ⟨#[]⟩ ⟨#[]⟩ false);
                 have HPT := Lib.hid (HR.put 2 p hh (cutP r) (cutQ r) (cutA r));
                 (have c0 := HR.res.cell 0 _ rfl;
                  have c1 := HR.res.cell 1 _ rfl;
                  have c2 := HR.res.cell 2 _ rfl;
                  have c3 := HR.res.cell 3 _ rfl;
                  have c4 := HR.res.cell 4 _ rfl;
                  have c5 := HR.res.cell 5 _ rfl;
                  have f0 := HR.res.free 0;
                  have f1 := HR.res.free 1;
                  have f2 := HR.res.free 2;
                  have f3 := HR.res.free 3;
                  have f4 := HR.res.free 4;
                  have f5 := HR.res.free 5);
                 clear HR;
                 cases z;
                 · (have HQ := Lib.hid (show F = (zeroT, 60) from by rw [HF.out]; unfold httpG; rw [HZ.out, HZZ.out, if_neg (fun h => h rfl), if_neg (by decide)]);
                    go_wp2;
                    refine bodyPost_ret (results10 _ _ b 0 0 ⟨#[]⟩ ⟨#[]⟩ ⟨#[]⟩ false 60 rfl rfl HPZ.out.res) rfl ⟨?_, HPZ.out.ch⟩;
                    rw [HQ.out]; rfl)
                 · (have HQ := Lib.hid (show F = (tgt 2 hh p (cutP r) (cutQ r) (cutA r), 0) from by rw [HF.out]; unfold httpG; rw [HZ.out, HZZ.out, if_neg (fun h => h rfl), if_pos rfl]);
                    go_wp2;
                    refine bodyPost_ret (results10 _ _ b 2 p hh (cutP r) (cutQ r) (cutA r) 0 rfl rfl HPT.out.res) rfl ⟨?_, HPT.out.ch⟩;
                    rw [HQ.out]))))
          · (have hb0i : ¬ (0 : Int) < (B.size : Int) := by omega;
             have hbl : B.data.toList = [] := List.eq_nil_of_length_eq_zero (by rw [toList_len]; omega);
             have hbe : B.toList.isEmpty = true := by (rw [Lib.toList_data, hbl]; rfl);
             have hqq : Lib.hasPrefix B.data.toList [47] = false := by (rw [hbl]; rfl);
             clear hbl;
             (have hrb : rooted B = ⟨#[47]⟩ ++ B := by (unfold rooted; rw [hqq]; rfl);
              have hrl := rooted_len B;
              have hcat : ¬ (9223372036854775807 < (⟨#[47]⟩ : ByteArray).size + B.size) := by (show ¬ (9223372036854775807 < 1 + B.size); omega);
              rw [hrb] at hrl HF;
              have hrl : (⟨#[47]⟩ ++ B : ByteArray).size ≤ 1048576 := by omega;
              clear hrb hqq;
              go_wp2_with fail;
              generalize (⟨#[47]⟩ ++ B : ByteArray) = r at *;
              (obtain ⟨z, hzz⟩ : ∃ z, locL (cutP r).data.toList (cutQ r).data.toList = z := ⟨_, rfl⟩;
               have HZZ := Lib.hid hzz;
               have HLO := Lib.hid (fun w => rlocal_any 2 p hh r w hrl z hzz);
               clear hzz;
               refine (HLO.out _).mono ?_;
               rintro o W6 ⟨rfl, H6⟩;
               have HR2 := HR1.out.chg H6.out;
               have HB := Lib.hid (HR2.both (va := tgt 2 hh p (cutP r) (cutQ r) (cutA r)));
               clear HR2;
               unfold tgt;
               have HR : Res w (W6.alloc (.cells #[.int .i64 2, .string hh, .int .i64 p, .string (cutP r), .string (cutQ r), .bool (cutA r)] 76)) b zeroT := ⟨HB.out.bb, HB.out.ch, HB.out.gb⟩;
               have HPZ := Lib.hid (HR.put 0 0 ⟨#[]⟩ ⟨#[]⟩ ⟨#[]⟩ false);
               have HPT := Lib.hid (HR.put 2 p hh (cutP r) (cutQ r) (cutA r));
               (have c0 := HR.res.cell 0 _ rfl;
                have c1 := HR.res.cell 1 _ rfl;
                have c2 := HR.res.cell 2 _ rfl;
                have c3 := HR.res.cell 3 _ rfl;
                have c4 := HR.res.cell 4 _ rfl;
                have c5 := HR.res.cell 5 _ rfl;
                have f0 := HR.res.free 0;
                have f1 := HR.res.free 1;
                have f2 := HR.res.free 2;
                have f3 := HR.res.free 3;
                have f4 := HR.res.free 4;
                have f5 := HR.res.free 5);
               clear HR;
               cases z;
               · (have HQ := Lib.hid (show F = (zeroT, 60) from by rw [HF.out]; unfold httpG; rw [HZ.out, HZZ.out, if_neg (fun h => h rfl), if_neg (by decide)]);
                  go_wp2;
                  refine bodyPost_ret (results10 _ _ b 0 0 ⟨#[]⟩ ⟨#[]⟩ ⟨#[]⟩ false 60 rfl rfl HPZ.out.res) rfl ⟨?_, HPZ.out.ch⟩;
                  rw [HQ.out]; rfl)
               · (have HQ := Lib.hid (show F = (tgt 2 hh p (cutP r) (cutQ r) (cutA r), 0) from by rw [HF.out]; unfold httpG; rw [HZ.out, HZZ.out, if_neg (fun h => h rfl), if_pos rfl]);
                  go_wp2;
                  refine bodyPost_ret (results10 _ _ b 2 p hh (cutP r) (cutQ r) (cutA r) 0 rfl rfl HPT.out.res) rfl ⟨?_, HPT.out.ch⟩;
                  rw [HQ.out])))))
       · (have HQ := Lib.hid (show F = (zeroT, e) from by rw [HF.out]; unfold httpG; rw [HZ.out, if_pos k1]);
          have HR := HR1.out;
          have HPZ := Lib.hid (HR.put 0 0 ⟨#[]⟩ ⟨#[]⟩ ⟨#[]⟩ false);
          (have c0 := HR.res.cell 0 _ rfl;
           have c1 := HR.res.cell 1 _ rfl;
           have c2 := HR.res.cell 2 _ rfl;
           have c3 := HR.res.cell 3 _ rfl;
           have c4 := HR.res.cell 4 _ rfl;
           have c5 := HR.res.cell 5 _ rfl;
           have f0 := HR.res.free 0;
           have f1 := HR.res.free 1;
           have f2 := HR.res.free 2;
           have f3 := HR.res.free 3;
           have f4 := HR.res.free 4;
           have f5 := HR.res.free 5);
          have k1b : (e == 0) = false := beq_eq_false_iff_ne.2 k1;
          clear HR;
          go_wp2;
          refine bodyPost_ret (results10 _ _ b 0 0 ⟨#[]⟩ ⟨#[]⟩ ⟨#[]⟩ false e rfl rfl HPZ.out.res) rfl ⟨?_, HPZ.out.ch⟩;
          rw [HQ.out]; rfl))
end Go.Proofs.YtjndgkbikhndoaaGreatDoor

namespace Go.Proofs.YtjndgkbikhndoaaGreatDoor
open Go.RowKit Go.ChangeShapes Go.WideShapes
set_option linter.unusedVariables false

/-- Where the first of / and ? stands behind http://. -/
def ixOf (s : ByteArray) : Int := Lib.indexAny (s.extract 7 s.size).data.toList [47, 63]
theorem rparse_any (m s : ByteArray) (w : World) :
    Calls Tryz.prog 83 #[.string m, .string s] w fun o w' => o = .returned (.tuple #[.agg (parseF m s (ixOf s)).1.toArray, .int .i64 (parseF m s (ixOf s)).2]) ∧ Hid (Chg [] w w') := by
  unfold parseF
  by_cases h : 8192 < s.size
  · rw [if_pos h]
    exact rparse_long m s w h
  have h' : s.size ≤ 8192 := by omega
  simp only [if_neg h]
  cases k : (m.toList == [67, 79, 78, 78, 69, 67, 84])
  · simp only [Bool.false_eq_true, if_false]
    cases k2 : (s.toList == [42])
    · simp only [Bool.false_eq_true, if_false]
      cases k3 : Lib.hasPrefix s.data.toList [47]
      · simp only [Bool.false_eq_true, if_false]
        cases k4 : isHttp s
        · simp only [Bool.false_eq_true, if_false]
          exact rparse_other m s w h' k k2 k3 k4
        · simp only [if_true]
          exact rparse_http m s w h' k k2 k3 k4 _ rfl
      · simp only [if_true]
        exact rparse_slash m s w h' k k2 k3
    · simp only [if_true]
      refine (rparse_star m s w h' k k2 _ rfl).mono ?_
      rintro o w' ⟨rfl, H⟩
      refine ⟨?_, H⟩
      cases (m.toList == [79, 80, 84, 73, 79, 78, 83]) <;> rfl
  · simp only [if_true]
    exact rparse_conn m s w h' k
theorem parse_same {m s : ByteArray} {v : Int} (hv : IxOK (s.extract 7 s.size).data.toList v) (h : (parseF m s v).2 = 0) : v = ixOf s := by
  have hs := parse_safe hv h
  refine hv.2.2 (.inr fun b hb => ?_)
  rw [data_ext] at hb
  have := hs b (List.mem_of_mem_drop (List.mem_of_mem_take hb))
  unfold okB at this
  omega
/-- Taken, with just this target. -/
def takes (m s : ByteArray) (vs : List Value) : Prop := parseF m s (ixOf s) = (vs, 0)
theorem takes_any {m s : ByteArray} {v : Int} (hv : IxOK (s.extract 7 s.size).data.toList v) (vs : List Value) : parseF m s v = (vs, 0) ↔ takes m s vs := by
  unfold takes
  constructor
  · intro h
    rw [← parse_same hv (by rw [h])]
    exact h
  · intro h
    have hs := parse_safe (ixok_any _) (show (parseF m s (ixOf s)).2 = 0 by rw [h])
    have : v = ixOf s := hv.2.2 (.inr fun b hb => by
      rw [data_ext] at hb
      have := hs b (List.mem_of_mem_drop (List.mem_of_mem_take hb))
      unfold okB at this
      omega)
    rw [this]
    exact h
theorem tgt_inj {f f' p p' : Int} {h h' pa pa' q q' : ByteArray} {a a' : Bool} : tgt f h p pa q a = tgt f' h' p' pa' q' a' ↔ (f = f' ∧ h = h' ∧ p = p' ∧ pa = pa' ∧ q = q' ∧ a = a') := by
  unfold tgt
  constructor
  · intro e
    simp only [List.cons.injEq, Value.int.injEq, Value.string.injEq, Value.bool.injEq, and_true, true_and] at e
    exact e
  · rintro ⟨rfl, rfl, rfl, rfl, rfl, rfl⟩
    rfl
theorem parseF_form (m s : ByteArray) (v : Int) : ∃ f h p pa q a, (parseF m s v).1 = tgt f h p pa q a := by
  have z : ∃ f h p pa q a, zeroT = tgt f h p pa q a := ⟨_, _, _, _, _, _, rfl⟩
  unfold parseF
  split
  · exact z
  split
  · unfold connF
    split
    · exact z
    · split
      · exact z
      · exact ⟨_, _, _, _, _, _, rfl⟩
  split
  · split
    · exact ⟨_, _, _, _, _, _, rfl⟩
    · exact z
  split
  · unfold slashF
    split
    · exact ⟨_, _, _, _, _, _, rfl⟩
    · exact z
  split
  · unfold httpF httpG
    split
    · exact z
    · split
      · exact ⟨_, _, _, _, _, _, rfl⟩
      · exact z
  · exact z
theorem bytes_eq (a b : ByteArray) : (a.toList == b.toList) = decide (a = b) := by
  rw [Bool.eq_iff_iff, beq_iff_eq, decide_eq_true_eq, Lib.toList_data, Lib.toList_data]
  constructor
  · intro e
    rw [ofList a _ e, ← ofList b _ rfl]
  · intro e
    rw [e]
end Go.Proofs.YtjndgkbikhndoaaGreatDoor
