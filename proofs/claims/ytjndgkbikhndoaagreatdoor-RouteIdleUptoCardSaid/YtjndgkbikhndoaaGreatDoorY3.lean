/- Layer 14 (route): whether a match's host takes a host; both sides. -/
import Derived.Test.YtjndgkbikhndoaaGreatDoorY2
namespace Go.Proofs.YtjndgkbikhndoaaGreatDoor
open Go.RowKit Go.ChangeShapes Go.WideShapes
set_option linter.unusedVariables false

def dotW (m : ByteArray) : ByteArray := (⟨#[46]⟩ : ByteArray) ++ wildB m
/-- How near a match's host is to a host: what the reference says. -/
def wildH (m h : ByteArray) : Bool := Lib.hasPrefix m.data.toList [42, 46] && (Lib.hasSuffix h.data.toList (dotW m).data.toList && decide ((wildB m).size + 1 < h.size))
def hostedB (m h : ByteArray) : Bool := wildH m h || (decide (m.size = 0) || decide (m = h))
def kindZ (m h : ByteArray) : Int := if m.size = 0 then 1 else if m = h then 3 else if wildH m h then 2 else 0
theorem kind_hosted (m h : ByteArray) : decide (kindZ m h = 0) = !hostedB m h := by
  unfold kindZ hostedB
  by_cases h1 : m.size = 0
  · rw [if_pos h1, decide_eq_true h1]
    simp
  · rw [if_neg h1, decide_eq_false h1]
    by_cases h2 : m = h
    · rw [if_pos h2, decide_eq_true h2]
      simp
    · rw [if_neg h2, decide_eq_false h2]
      cases wildH m h <;> rfl
theorem emp_eq (s : ByteArray) : s.toList.isEmpty = decide (s.size = 0) := by
  by_cases h : s.size = 0
  · rw [emp_true h, decide_eq_true h]
  · rw [emp_false h, decide_eq_false h]
theorem eqb_dec (s t : ByteArray) : (s.toList == t.toList) = decide (s = t) := by
  by_cases h : s = t
  · rw [h, eqb_true, decide_eq_true rfl]
  · rw [eqb_false h, decide_eq_false h]
set_option maxHeartbeats 4000000 in
set_option maxRecDepth 100000 in
theorem hosted_any (m h : ByteArray) (w : World) (hm : m.size ≤ 1048576) (hh : h.size ≤ 1048577) (z : Bool) (hz : hostedB m h = z) : Calls Tryz.prog 25 #[.string m, .string h] w fun e w' => e = .returned (.bool z) ∧ w = w' := by
  have HCP := Lib.hid (fun w => Tryz.strings_CutPrefix m ⟨#[42, 46]⟩ w)
  rw [star_list] at HCP
  have hw : (⟨(Lib.trimPrefix m.data.toList [42, 46]).toArray⟩ : ByteArray) = wildB m := rfl
  rw [hw] at HCP
  have HSF := Lib.hid (fun w => Tryz.strings_HasSuffix h (dotW m) w (by omega))
  unfold dotW at HSF
  have hwl := wildB_len m
  unfold hostedB wildH dotW at hz
  generalize wildB m = wild at *
  clear hw
  have hws : IntKind.i64.wrap ((wild.size : Int) + 1) = (wild.size : Int) + 1 := wrap_in (by omega) (by omega)
  generalize Lib.hasPrefix m.data.toList [42, 46] = q1 at *
  generalize Lib.hasSuffix h.data.toList ((⟨#[46]⟩ : ByteArray) ++ wild).data.toList = q2 at *
  cases q1
  · rw [Bool.false_and, Bool.false_or] at hz
    (by_cases k1 : m.size = 0
     · have he := emp_true k1
       have HR := Lib.hid (show z = true from by rw [← hz, decide_eq_true k1]; rfl)
       clear hz k1
       go_enter Tryz.func25, Tryz.ntmps25
       go_wp2_with (first | (go_at_call 30; (with_reducible refine (HCP.out _).mono ?_); rintro e w' ⟨rfl, hw⟩; rw [hw]; clear hw) | (go_at_call 31; (with_reducible refine (HSF.out _).mono ?_); rintro e w' ⟨rfl, hw⟩; rw [hw]; clear hw))
       go_ret
       exact ⟨by rw [HR.out]; rfl, rfl⟩
     · have he := emp_false k1
       rw [decide_eq_false k1, Bool.false_or] at hz
       have hq := eqb_dec m h
       rw [hz] at hq
       clear hz k1
       go_enter Tryz.func25, Tryz.ntmps25
       go_wp2_with (first | (go_at_call 30; (with_reducible refine (HCP.out _).mono ?_); rintro e w' ⟨rfl, hw⟩; rw [hw]; clear hw) | (go_at_call 31; (with_reducible refine (HSF.out _).mono ?_); rintro e w' ⟨rfl, hw⟩; rw [hw]; clear hw))
       go_ret
       exact ⟨by first | rfl | (rw [hq]; done) | (rw [hq]; rfl) | (simp [hq]), rfl⟩)
  · rw [Bool.true_and] at hz
    cases q2
    · rw [Bool.false_and, Bool.false_or] at hz
      (by_cases k1 : m.size = 0
       · have he := emp_true k1
         have HR := Lib.hid (show z = true from by rw [← hz, decide_eq_true k1]; rfl)
         clear hz k1
         go_enter Tryz.func25, Tryz.ntmps25
         go_wp2_with (first | (go_at_call 30; (with_reducible refine (HCP.out _).mono ?_); rintro e w' ⟨rfl, hw⟩; rw [hw]; clear hw) | (go_at_call 31; (with_reducible refine (HSF.out _).mono ?_); rintro e w' ⟨rfl, hw⟩; rw [hw]; clear hw))
         go_ret
         exact ⟨by rw [HR.out]; rfl, rfl⟩
       · have he := emp_false k1
         rw [decide_eq_false k1, Bool.false_or] at hz
         have hq := eqb_dec m h
         rw [hz] at hq
         clear hz k1
         go_enter Tryz.func25, Tryz.ntmps25
         go_wp2_with (first | (go_at_call 30; (with_reducible refine (HCP.out _).mono ?_); rintro e w' ⟨rfl, hw⟩; rw [hw]; clear hw) | (go_at_call 31; (with_reducible refine (HSF.out _).mono ?_); rintro e w' ⟨rfl, hw⟩; rw [hw]; clear hw))
         go_ret
         exact ⟨by first | rfl | (rw [hq]; done) | (rw [hq]; rfl) | (simp [hq]), rfl⟩)
    · rw [Bool.true_and] at hz
      by_cases k0 : wild.size + 1 < h.size
      · have k0i : (wild.size : Int) + 1 < (h.size : Int) := by omega
        have HR := Lib.hid (show z = true from by rw [← hz, decide_eq_true k0]; rfl)
        clear hz k0
        go_enter Tryz.func25, Tryz.ntmps25
        go_wp2_with (first | (go_at_call 30; (with_reducible refine (HCP.out _).mono ?_); rintro e w' ⟨rfl, hw⟩; rw [hw]; clear hw) | (go_at_call 31; (with_reducible refine (HSF.out _).mono ?_); rintro e w' ⟨rfl, hw⟩; rw [hw]; clear hw))
        go_ret
        exact ⟨by rw [HR.out]; rfl, rfl⟩
      · have k0i : ¬ (wild.size : Int) + 1 < (h.size : Int) := by omega
        rw [decide_eq_false k0, Bool.false_or] at hz
        clear k0
        (by_cases k1 : m.size = 0
         · have he := emp_true k1
           have HR := Lib.hid (show z = true from by rw [← hz, decide_eq_true k1]; rfl)
           clear hz k1
           go_enter Tryz.func25, Tryz.ntmps25
           go_wp2_with (first | (go_at_call 30; (with_reducible refine (HCP.out _).mono ?_); rintro e w' ⟨rfl, hw⟩; rw [hw]; clear hw) | (go_at_call 31; (with_reducible refine (HSF.out _).mono ?_); rintro e w' ⟨rfl, hw⟩; rw [hw]; clear hw))
           go_ret
           exact ⟨by rw [HR.out]; rfl, rfl⟩
         · have he := emp_false k1
           rw [decide_eq_false k1, Bool.false_or] at hz
           have hq := eqb_dec m h
           rw [hz] at hq
           clear hz k1
           go_enter Tryz.func25, Tryz.ntmps25
           go_wp2_with (first | (go_at_call 30; (with_reducible refine (HCP.out _).mono ?_); rintro e w' ⟨rfl, hw⟩; rw [hw]; clear hw) | (go_at_call 31; (with_reducible refine (HSF.out _).mono ?_); rintro e w' ⟨rfl, hw⟩; rw [hw]; clear hw))
           go_ret
           exact ⟨by first | rfl | (rw [hq]; done) | (rw [hq]; rfl) | (simp [hq]), rfl⟩)
/-- What ends so: the reference's words. -/
theorem ends_so {m h : ByteArray} (h2 : 2 ≤ m.size) (hp : Lib.hasPrefix m.data.toList [42, 46] = true) (hs : m.size ≤ h.size) : ((h.extract (h.size - m.size + 1) h.size).toList == (m.extract 1 m.size).toList) = Lib.hasSuffix h.data.toList (dotW m).data.toList := by
  have e1 : (m.extract 1 m.size).toList = (dotW m).data.toList := by
    rw [Lib.toList_data, data_ext]
    unfold dotW
    rw [app_list]
    obtain ⟨t, ht⟩ := List.isPrefixOf_iff_prefix.1 hp
    have hw : (wildB m).data.toList = t := by
      show (Lib.trimPrefix m.data.toList [42, 46]).toArray.toList = t
      unfold Lib.trimPrefix
      rw [if_pos hp, ← ht]
      rfl
    rw [hw, ← ht]
    have hl : m.size = t.length + 2 := by
      rw [← toList_len, ← ht]
      simp
    rw [hl]
    show ([46] ++ t).take (t.length + 2 - 1) = [46] ++ t
    rw [List.take_of_length_le (by simp)]
  have e2 := Lib.hasSuffix_of_drop h.data.toList (dotW m).data.toList
  have hl2 : (dotW m).data.toList.length = m.size - 1 := by
    rw [← e1, Lib.toList_data, data_ext, List.length_take, List.length_drop, toList_len]
    omega
  rw [hl2, toList_len, decide_eq_true (by omega), Bool.true_and] at e2
  rw [e1, ← e2, Lib.toList_data, data_ext, show h.size - m.size + 1 = h.size - (m.size - 1) by omega, List.take_of_length_le (by rw [List.length_drop, toList_len]; omega)]
end Go.Proofs.YtjndgkbikhndoaaGreatDoor
