/- Layer 6: Number, host. -/
import Derived.Test.YtjndgkbikhndoaaGreatDoorT3
namespace Go.Proofs.YtjndgkbikhndoaaGreatDoor
open Go.RowKit Go.ChangeShapes Go.WideShapes
set_option linter.unusedVariables false

theorem number_any (s : ByteArray) (w : World) (hs : s.size ≤ 1048576) (hE : Hid (Env w)) (a b : Int) (hab : numF s.data.toList = (a, b)) :
    Calls Tryz.prog 73 #[.string s] w fun e w' => e = .returned (.tuple #[.int .i64 a, .int .i64 b]) ∧ Hid (Chg [] w w') := by
  have HAB := Lib.hid hab
  clear hab
  go_enter Tryz.func73, Tryz.ntmps73
  go_wp2_with fail
  refine (digits_any s _ hs hE a b HAB.out).mono ?_
  rintro e w2 ⟨rfl, H2⟩
  go_wp2
  go_ret2
  exact ⟨rfl, H2.out⟩
/-- Is a rune no letter of a host between brackets? -/
def badR (r : Nat) : Bool := decide (127 < r) || (!hexI (r : Int) && (decide (r ≠ 58) && decide (r ≠ 46)))
theorem bad_any (r : Nat) (w : World) (hr : r ≤ 1114111) : Calls Tryz.prog 101 #[.int .i32 (r : Int)] w fun e w' => e = .returned (.bool (badR r)) ∧ w = w' := by
  by_cases h1 : 127 < r
  · have h2 : (127 : Int) < (r : Int) := by omega
    have HB := Lib.hid (show badR r = true from by unfold badR; rw [decide_eq_true h1]; rfl)
    go_enter Tryz.func101, Tryz.ntmps101
    go_wp2
    go_ret
    exact ⟨by rw [HB.out]; rfl, rfl⟩
  · have h2 : ¬ (127 : Int) < (r : Int) := by omega
    have hw : IntKind.u8.wrap (r : Int) = (r : Int) := by
      unfold IntKind.wrap IntKind.bits IntKind.signed
      simp
      omega
    have hd : decide (127 < r) = false := decide_eq_false h1
    cases q : hexI (r : Int)
    · have HX : ∀ w, Calls Tryz.prog 102 #[.int .u8 (r : Int)] w fun e w' => e = .returned (.bool false) ∧ w = w' := fun w => by rw [← q]; exact hex_any _ w
      by_cases h3 : r = 58
      · have HB := Lib.hid (show badR r = false from by rw [h3]; decide)
        have h4 : ((r : Int) == 58) = true := beq_iff_eq.2 (by omega)
        have h7 : ((r : Int) != 58) = false := by unfold bne; rw [h4]; rfl
        clear q hd h3 h4
        generalize (r : Int) = x at *
        go_enter Tryz.func101, Tryz.ntmps101
        go_wp2_with (go_at_call 102; (with_reducible refine (HX _).mono ?_); rintro e w' ⟨rfl, rfl⟩)
        go_ret
        exact ⟨by rw [HB.out]; first | rfl | simp [h7], rfl⟩
      · have h4 : ((r : Int) == 58) = false := beq_eq_false_iff_ne.2 (by omega)
        have h7 : ((r : Int) != 58) = true := by unfold bne; rw [h4]; rfl
        by_cases h5 : r = 46
        · have HB := Lib.hid (show badR r = false from by rw [h5]; decide)
          have h6 : ((r : Int) == 46) = true := beq_iff_eq.2 (by omega)
          have h8 : ((r : Int) != 46) = false := by unfold bne; rw [h6]; rfl
          clear q hd h3 h5 h4 h6
          generalize (r : Int) = x at *
          go_enter Tryz.func101, Tryz.ntmps101
          go_wp2_with (go_at_call 102; (with_reducible refine (HX _).mono ?_); rintro e w' ⟨rfl, rfl⟩)
          go_ret
          exact ⟨by rw [HB.out]; first | rfl | simp [h7, h8], rfl⟩
        · have h6 : ((r : Int) == 46) = false := beq_eq_false_iff_ne.2 (by omega)
          have h8 : ((r : Int) != 46) = true := by unfold bne; rw [h6]; rfl
          have HB := Lib.hid (show badR r = true from by unfold badR; rw [q, decide_eq_true h3, decide_eq_true h5]; simp)
          clear q hd h3 h5 h4 h6
          generalize (r : Int) = x at *
          go_enter Tryz.func101, Tryz.ntmps101
          go_wp2_with (go_at_call 102; (with_reducible refine (HX _).mono ?_); rintro e w' ⟨rfl, rfl⟩)
          go_ret
          exact ⟨by rw [HB.out]; first | rfl | simp [h7, h8], rfl⟩
    · have HX : ∀ w, Calls Tryz.prog 102 #[.int .u8 (r : Int)] w fun e w' => e = .returned (.bool true) ∧ w = w' := fun w => by rw [← q]; exact hex_any _ w
      have HB := Lib.hid (show badR r = false from by unfold badR; rw [q, hd]; rfl)
      clear q hd
      go_enter Tryz.func101, Tryz.ntmps101
      go_wp2_with (go_at_call 102; (with_reducible refine (HX _).mono ?_); rintro e w' ⟨rfl, rfl⟩)
      go_ret
      exact ⟨by rw [HB.out]; rfl, rfl⟩
def hostMore : List UInt8 := [45, 46, 95, 126, 33, 36, 38, 39, 40, 41, 42, 43, 59, 61]
/-- Is a text a host? -/
def hostL (l : List UInt8) : Bool :=
  if Lib.hasPrefix l [91] then
    Lib.hasSuffix (Lib.trimPrefix l [91]) [93] && (!(Lib.trimSuffix (Lib.trimPrefix l [91]) [93]).isEmpty && decide (Lib.idxFunc badR true ⟨(Lib.trimSuffix (Lib.trimPrefix l [91]) [93]).toArray⟩ < 0))
  else !l.isEmpty && (decide (l.length ≤ 255) && madeL hostMore l)
theorem trimP_len (l p : List UInt8) : (Lib.trimPrefix l p).length ≤ l.length := by
  unfold Lib.trimPrefix
  split
  · rw [List.length_drop]; omega
  · exact Nat.le_refl _
theorem enter36 : ∀ args w, (callFunc 101 args).run Tryz.prog w = .ok (.enter 101 args) w := enters_of Tryz.func101 (by kernel_rfl) rfl
set_option maxHeartbeats 4000000 in
set_option maxRecDepth 100000 in
theorem host_any (s : ByteArray) (w : World) (hs : s.size ≤ 1048576) (z : Bool) (hz : hostL s.data.toList = z) :
    Calls Tryz.prog 71 #[.string s] w fun e w' => e = .returned (.bool z) ∧ Hid (Chg [] w w') := by
  have hz3 : (s.size : Int) ≤ 1048576 := by omega
  have HZ := Lib.hid hz
  clear hz
  cases h1 : Lib.hasPrefix s.data.toList [91]
  · have hz := HZ.out
    unfold hostL at hz
    rw [h1, if_neg (by decide), toList_len] at hz
    have hte : s.toList = s.data.toList := Lib.toList_data s
    rw [← hte] at hz
    have HP := Lib.hid (Tryz.strings_CutPrefix s ⟨#[91]⟩)
    rw [show (⟨#[91]⟩ : ByteArray).data.toList = [91] from rfl, h1] at HP
    generalize (⟨(Lib.trimPrefix s.data.toList [91]).toArray⟩ : ByteArray) = s1 at HP
    have HM := Lib.hid (fun w => made_any s ⟨#[45, 46, 95, 126, 33, 36, 38, 39, 40, 41, 42, 43, 59, 61]⟩ w hs)
    rw [show (⟨#[45, 46, 95, 126, 33, 36, 38, 39, 40, 41, 42, 43, 59, 61]⟩ : ByteArray).data.toList = hostMore from rfl, ← hte] at HM
    generalize madeL hostMore s.toList = mm at hz HM
    clear h1 HZ hte
    cases he : s.toList.isEmpty
    · rw [he] at hz
      by_cases hl : s.size ≤ 255
      · have hl2 : (s.size : Int) ≤ 255 := by omega
        rw [decide_eq_true hl] at hz
        have hz' : mm = z := hz
        subst hz'
        clear hz hl
        go_enter Tryz.func71, Tryz.ntmps71
        go_wp2_with (first | (go_at_call 30; (with_reducible refine (HP.out _).mono ?_); rintro e w' ⟨rfl, rfl⟩) | (go_at_call 93; (with_reducible refine (HM.out _).mono ?_); rintro e w' ⟨rfl, rfl⟩))
        go_ret
        exact ⟨rfl, Chg.refl _ _⟩
      · have hl2 : ¬ (s.size : Int) ≤ 255 := by omega
        rw [decide_eq_false hl] at hz
        have hz' : false = z := hz
        subst hz'
        clear hz hl
        go_enter Tryz.func71, Tryz.ntmps71
        go_wp2_with (first | (go_at_call 30; (with_reducible refine (HP.out _).mono ?_); rintro e w' ⟨rfl, rfl⟩) | (go_at_call 93; (with_reducible refine (HM.out _).mono ?_); rintro e w' ⟨rfl, rfl⟩))
        go_ret
        exact ⟨rfl, Chg.refl _ _⟩
    · rw [he] at hz
      have hz' : false = z := hz
      subst hz'
      clear hz
      go_enter Tryz.func71, Tryz.ntmps71
      go_wp2_with (first | (go_at_call 30; (with_reducible refine (HP.out _).mono ?_); rintro e w' ⟨rfl, rfl⟩) | (go_at_call 93; (with_reducible refine (HM.out _).mono ?_); rintro e w' ⟨rfl, rfl⟩))
      go_ret
      exact ⟨rfl, Chg.refl _ _⟩
  · have hz := HZ.out
    unfold hostL at hz
    rw [h1, if_pos rfl] at hz
    have hl := trimP_len s.data.toList [91]
    rw [toList_len] at hl
    have HP := Lib.hid (Tryz.strings_CutPrefix s ⟨#[91]⟩)
    rw [show (⟨#[91]⟩ : ByteArray).data.toList = [91] from rfl, h1] at HP
    generalize Lib.trimPrefix s.data.toList [91] = l1 at hz hl HP
    obtain ⟨s1, hs1⟩ : ∃ s1 : ByteArray, (⟨l1.toArray⟩ : ByteArray) = s1 := ⟨_, rfl⟩
    have e1 : l1 = s1.data.toList := by rw [← hs1]
    have HQ := Lib.hid (fun w => Tryz.strings_CutSuffix s1 ⟨#[93]⟩ w (by rw [← toList_len, ← e1]; omega))
    rw [show (⟨#[93]⟩ : ByteArray).data.toList = [93] from rfl, ← e1] at HQ
    rw [hs1] at HP
    generalize Lib.trimSuffix l1 [93] = l2 at hz HQ
    obtain ⟨s2, hs2⟩ : ∃ s2 : ByteArray, (⟨l2.toArray⟩ : ByteArray) = s2 := ⟨_, rfl⟩
    have e2 : s2.toList = l2 := by rw [Lib.toList_data, ← hs2]
    rw [hs2] at HQ hz
    generalize Lib.hasSuffix l1 [93] = ok at hz HQ
    have HF := Lib.hid (fun w => Tryz.strings_IndexFunc_grows 101 #[] enter36 badR s2 w (fun W x hx _ => (bad_any x W hx).mono (fun e w' h => ⟨h.1, by rw [← h.2]; exact Below.refl _ _⟩)))
    generalize Lib.idxFunc badR true s2 = ix at hz HF
    rw [← e2] at hz
    clear e1 e2 hs1 hs2
    go_enter Tryz.func71, Tryz.ntmps71
    go_wp2_with (first | (go_at_call 30; (with_reducible refine (HP.out _).mono ?_); rintro e w' ⟨rfl, rfl⟩) | (go_at_call 99; (with_reducible refine (HQ.out _).mono ?_); rintro e w' ⟨rfl, rfl⟩))
    refine (HF.out _).mono ?_
    rintro e w2 ⟨rfl, H2⟩
    have HC2 := Lib.hid (Chg.of_below H2)
    clear H2 HF HP HQ HZ
    cases ok
    · have HZ := Lib.hid hz
      clear hz
      go_wp2
      go_ret
      exact ⟨by rw [← HZ.out]; first | rfl | simp, HC2.out⟩
    · cases he : s2.toList.isEmpty
      · rw [he] at hz
        have hz' : decide (ix < 0) = z := hz
        have HZ := Lib.hid hz'
        clear hz hz'
        go_wp2
        go_ret
        exact ⟨by rw [← HZ.out]; first | rfl | simp, HC2.out⟩
      · rw [he] at hz
        have HZ := Lib.hid hz
        clear hz
        go_wp2
        go_ret
        exact ⟨by rw [← HZ.out]; first | rfl | simp, HC2.out⟩
end Go.Proofs.YtjndgkbikhndoaaGreatDoor
