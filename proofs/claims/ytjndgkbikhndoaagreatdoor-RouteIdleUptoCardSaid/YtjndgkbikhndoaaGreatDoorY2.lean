/- Layer 14 (route): what a prefix covers, whether a match's host takes a host; both sides. -/
import Derived.Test.YtjndgkbikhndoaaGreatDoorY1
import Derived.Test.YtjndgkbikhndoaaGreatDoorX2
namespace Go.Proofs.YtjndgkbikhndoaaGreatDoor
open Go.RowKit Go.ChangeShapes Go.WideShapes
set_option linter.unusedVariables false

def covB (p s : ByteArray) : Bool :=
  Lib.hasPrefix s.data.toList p.data.toList && (decide (s.size = p.size) || (Lib.hasSuffix p.data.toList [47] || decide (s.data.toList[p.size]? = some 47)))
theorem slash_list : (⟨#[47]⟩ : ByteArray).data.toList = [47] := rfl
theorem u8_47 {x : UInt8} : ((x.toNat : Int) == 47) = decide (x = 47) := by
  rw [Bool.eq_iff_iff, beq_iff_eq, decide_eq_true_eq]
  constructor
  · intro h
    exact UInt8.toNat_inj.1 (by show x.toNat = 47; omega)
  · rintro rfl
    rfl
theorem rest_facts {s p : ByteArray} (h : Lib.hasPrefix s.data.toList p.data.toList = true) : ∃ r : ByteArray, (⟨(Lib.trimPrefix s.data.toList p.data.toList).toArray⟩ : ByteArray) = r ∧ p.size ≤ s.size ∧ r.size = s.size - p.size ∧ r.data.toList = s.data.toList.drop p.size := by
  have hl : p.size ≤ s.size := by
    have := (List.isPrefixOf_iff_prefix.1 h).length_le
    rw [toList_len, toList_len] at this
    exact this
  refine ⟨_, rfl, hl, ?_, ?_⟩
  · show (Lib.trimPrefix s.data.toList p.data.toList).toArray.size = _
    unfold Lib.trimPrefix
    rw [if_pos h, List.size_toArray, List.length_drop, toList_len, toList_len]
  · show (Lib.trimPrefix s.data.toList p.data.toList).toArray.toList = _
    unfold Lib.trimPrefix
    rw [if_pos h, toList_len]
set_option maxHeartbeats 4000000 in
set_option maxRecDepth 100000 in
theorem covers_any (p s : ByteArray) (w : World) (hp : p.size ≤ 1048576) (hs : s.size ≤ 100000000) (z : Bool) (hz : covB p s = z) : Calls Tryz.prog 13 #[.string p, .string s] w fun e w' => e = .returned (.bool z) ∧ w = w' := by
  have HCP := Lib.hid (fun w => Tryz.strings_CutPrefix s p w)
  have HSF := Lib.hid (fun w => Tryz.strings_HasSuffix p ⟨#[47]⟩ w (by omega))
  rw [slash_list] at HSF
  unfold covB at hz
  cases h1 : Lib.hasPrefix s.data.toList p.data.toList
  · rw [h1] at hz HCP
    have HR := Lib.hid (show z = false from hz.symm)
    clear hz h1
    go_enter Tryz.func13, Tryz.ntmps13
    go_wp2_with (go_at_call 30; (with_reducible refine (HCP.out _).mono ?_); rintro e w' ⟨rfl, hw⟩; rw [hw]; clear hw)
    go_ret
    exact ⟨by rw [HR.out]; rfl, rfl⟩
  · obtain ⟨r, hr, hl, hrs, hrd⟩ := rest_facts h1
    rw [h1] at hz HCP
    rw [hr] at HCP
    rw [Bool.true_and] at hz
    have HRD := Lib.hid hrd
    clear hr h1 hrd
    by_cases h2 : s.size = p.size
    · have HR := Lib.hid (show z = true from by rw [← hz, decide_eq_true h2]; rfl)
      have he := emp_true (s := r) (by omega)
      clear hz
      go_enter Tryz.func13, Tryz.ntmps13
      go_wp2_with (go_at_call 30; (with_reducible refine (HCP.out _).mono ?_); rintro e w' ⟨rfl, hw⟩; rw [hw]; clear hw)
      go_ret
      exact ⟨by rw [HR.out]; rfl, rfl⟩
    · rw [decide_eq_false h2, Bool.false_or] at hz
      have he := emp_false (s := r) (by omega)
      cases h3 : Lib.hasSuffix p.data.toList [47]
      · rw [h3] at hz HSF
        rw [Bool.false_or] at hz
        have hr0 : 0 < r.size := by omega
        obtain ⟨x, hx⟩ : ∃ x, r[0]'hr0 = x := ⟨_, rfl⟩
        have hg := toList_get r 0 hr0
        rw [hx, HRD.out, List.getElem?_drop, Nat.add_zero] at hg
        have hq : ((x.toNat : Int) == 47) = z := by
          rw [u8_47, ← hz, hg]
          simp
        have hr0i : (0 : Int) < (r.size : Int) := by omega
        have HQ := Lib.hid hq
        have HX := Lib.hid hx
        cases z
        · have hq2 : ((x.toNat : Int) == 47) = false := HQ.out
          clear hz h3 hg hq h2
          have HR := Lib.hid (show false = false from rfl)
          go_enter Tryz.func13, Tryz.ntmps13
          go_wp2_with (first | (go_at_call 30; (with_reducible refine (HCP.out _).mono ?_); rintro e w' ⟨rfl, hw⟩; rw [hw]; clear hw) | (go_at_call 31; (with_reducible refine (HSF.out _).mono ?_); rintro e w' ⟨rfl, hw⟩; rw [hw]; clear hw))
          go_ret
          exact ⟨rfl, rfl⟩
        · have hq2 : ((x.toNat : Int) == 47) = true := HQ.out
          clear hz h3 hg hq h2
          go_enter Tryz.func13, Tryz.ntmps13
          go_wp2_with (first | (go_at_call 30; (with_reducible refine (HCP.out _).mono ?_); rintro e w' ⟨rfl, hw⟩; rw [hw]; clear hw) | (go_at_call 31; (with_reducible refine (HSF.out _).mono ?_); rintro e w' ⟨rfl, hw⟩; rw [hw]; clear hw))
          go_ret
          exact ⟨rfl, rfl⟩
      · rw [h3] at hz HSF
        have HR := Lib.hid (show z = true from hz.symm)
        clear hz h3 h2
        go_enter Tryz.func13, Tryz.ntmps13
        go_wp2_with (first | (go_at_call 30; (with_reducible refine (HCP.out _).mono ?_); rintro e w' ⟨rfl, hw⟩; rw [hw]; clear hw) | (go_at_call 31; (with_reducible refine (HSF.out _).mono ?_); rintro e w' ⟨rfl, hw⟩; rw [hw]; clear hw))
        go_ret
        exact ⟨by rw [HR.out]; rfl, rfl⟩
theorem pre_cmp {p s : ByteArray} (h : p.size ≤ s.size) : ((s.extract 0 p.size).toList == p.toList) = Lib.hasPrefix s.data.toList p.data.toList := by
  have := Lib.hasPrefix_raw s p
  rw [decide_eq_true h, Bool.true_and] at this
  exact this
theorem pre_short {p s : ByteArray} (h : s.size < p.size) : Lib.hasPrefix s.data.toList p.data.toList = false := by
  rw [Bool.eq_false_iff]
  intro h1
  have := (List.isPrefixOf_iff_prefix.1 h1).length_le
  rw [toList_len, toList_len] at this
  have h2 : p.size ≤ s.size := this
  omega
theorem suf_nil {p : ByteArray} (h : p.size = 0) : Lib.hasSuffix p.data.toList [47] = false := by
  have hl : p.data.toList = [] := List.eq_nil_of_length_eq_zero (by rw [toList_len]; exact h)
  rw [hl]
  rfl
theorem suf_last {p : ByteArray} {k : Nat} {x : UInt8} (h : p.size = k + 1) (hx : p.data.toList[k]? = some x) : Lib.hasSuffix p.data.toList [47] = decide (x = 47) := by
  have h1 := Lib.hasSuffix_of_drop p.data.toList [47]
  have hl : p.data.toList.length = k + 1 := by rw [toList_len]; exact h
  rw [hl, List.length_cons, List.length_nil, decide_eq_true (by omega), Bool.true_and, show k + 1 - (0 + 1) = k by omega, drop_get hx, List.drop_eq_nil_of_le (by omega)] at h1
  rw [← h1, Bool.eq_iff_iff, beq_iff_eq, decide_eq_true_eq]
  simp
set_option maxHeartbeats 4000000 in
set_option maxRecDepth 100000 in
theorem rcovers_any (p s : ByteArray) (w : World) (hp : p.size ≤ 1048576) (hs : s.size ≤ 1048576) (z : Bool) (hz : covB p s = z) : Calls Tryz.prog 14 #[.string p, .string s] w fun e w' => e = .returned (.bool z) ∧ w = w' := by
  unfold covB at hz
  by_cases h0 : s.size < p.size
  · have h0i : (s.size : Int) < (p.size : Int) := by omega
    have HR := Lib.hid (show z = false from by rw [← hz, pre_short h0]; rfl)
    clear hz h0
    go_enter Tryz.func14, Tryz.ntmps14
    go_wp2
    go_ret
    exact ⟨by rw [HR.out]; rfl, rfl⟩
  · have h0i : ¬ (s.size : Int) < (p.size : Int) := by omega
    have hc := pre_cmp (p := p) (s := s) (by omega)
    have hsl := fun w => slice_to s p.size w (by omega)
    cases h1 : Lib.hasPrefix s.data.toList p.data.toList
    · rw [h1] at hc hz
      have HR := Lib.hid (show z = false from hz.symm)
      clear hz h1
      generalize s.extract 0 p.size = pf at *
      go_enter Tryz.func14, Tryz.ntmps14
      go_wp2
      go_ret
      exact ⟨by rw [HR.out]; rfl, rfl⟩
    · rw [h1] at hc hz
      rw [Bool.true_and] at hz
      clear h1
      generalize s.extract 0 p.size = pf at *
      by_cases h2 : s.size = p.size
      · have h2i : ((s.size : Int) == (p.size : Int)) = true := beq_iff_eq.2 (by omega)
        have HR := Lib.hid (show z = true from by rw [← hz, decide_eq_true h2]; rfl)
        clear hz h2
        go_enter Tryz.func14, Tryz.ntmps14
        go_wp2
        go_ret
        exact ⟨by rw [HR.out]; rfl, rfl⟩
      · have h2i : ((s.size : Int) == (p.size : Int)) = false := beq_eq_false_iff_ne.2 (by omega)
        have h2j : ¬ (s.size : Int) = (p.size : Int) := by omega
        rw [decide_eq_false h2, Bool.false_or] at hz
        have hlt : p.size < s.size := by omega
        have hlti : (p.size : Int) < (s.size : Int) := by omega
        obtain ⟨y, hy⟩ : ∃ y, s[p.size]'hlt = y := ⟨_, rfl⟩
        have hg := toList_get s p.size hlt
        rw [hy] at hg
        rw [hg] at hz
        have hyz : decide (some y = some (47 : UInt8)) = decide (y = 47) := by simp
        rw [hyz] at hz
        clear hg hyz h2
        by_cases h3 : p.size = 0
        · have h3i : ¬ (0 : Int) < (p.size : Int) := by omega
          have hq : ((y.toNat : Int) == 47) = z := by rw [u8_47, ← hz, suf_nil h3]; rfl
          clear hz h3
          go_enter Tryz.func14, Tryz.ntmps14
          go_wp2
          go_ret
          exact ⟨by first | (rw [← hq]; done) | (rw [← hq]; rfl) | (simp [hq]), rfl⟩
        · have h3i : (0 : Int) < (p.size : Int) := by omega
          obtain ⟨k, hk⟩ : ∃ k, p.size = k + 1 := ⟨p.size - 1, by omega⟩
          have hkl : k < p.size := by omega
          have hki : (p.size : Int) - 1 = (k : Int) := by omega
          obtain ⟨x, hx⟩ : ∃ x, p[k]'hkl = x := ⟨_, rfl⟩
          have hg := toList_get p k hkl
          rw [hx] at hg
          rw [suf_last hk hg] at hz
          clear hg hk h3
          have hkl2 : (k : Int) < (p.size : Int) := by omega
          by_cases h4 : x = 47
          · have hq : ((x.toNat : Int) == 47) = true := by rw [u8_47, decide_eq_true h4]
            have HR := Lib.hid (show z = true from by rw [← hz, decide_eq_true h4]; rfl)
            clear hz h4
            go_enter Tryz.func14, Tryz.ntmps14
            go_wp2
            go_ret
            exact ⟨by rw [HR.out]; rfl, rfl⟩
          · have hq : ((x.toNat : Int) == 47) = false := by rw [u8_47, decide_eq_false h4]
            have hq2 : ((y.toNat : Int) == 47) = z := by rw [u8_47, ← hz, decide_eq_false h4]; rfl
            clear hz h4
            go_enter Tryz.func14, Tryz.ntmps14
            go_wp2
            go_ret
            exact ⟨by first | (rw [← hq2]; done) | (rw [← hq2]; rfl) | (simp [hq2]), rfl⟩
end Go.Proofs.YtjndgkbikhndoaaGreatDoor
