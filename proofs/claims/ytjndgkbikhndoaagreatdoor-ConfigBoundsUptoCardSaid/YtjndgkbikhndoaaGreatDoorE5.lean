/- Layer 5 (bytes): the reference's Token and Value. -/
import Derived.Test.YtjndgkbikhndoaaGreatDoorE4
import Derived.Lib.SlTrimSet
import Derived.Deep.DeepCutAuto
namespace Go.Proofs.YtjndgkbikhndoaaGreatDoor.E
open Go.RowKit Go.ChangeShapes Go.WideShapes
set_option linter.unusedVariables false

/-- Is a text a token? -/
def tokB (s : ByteArray) : Bool := s.data.toList.all (fun c => tchI (c.toNat : Int)) && !s.data.toList.isEmpty
theorem tok_no (s : ByteArray) (k : Nat) (c : UInt8) (hc : s.data.toList[k]? = some c) (h : tchI (c.toNat : Int) = false) : tokB s = false := by
  unfold tokB
  have : s.data.toList.all (fun c => tchI (c.toNat : Int)) = false := by
    rw [List.all_eq_false]
    exact ⟨c, List.mem_of_getElem? hc, by simp [h]⟩
  rw [this]
  rfl
theorem tok_end (s : ByteArray) (h : ∀ (j : Nat) (c : UInt8), s.data.toList[j]? = some c → tchI (c.toNat : Int) = true) : tokB s = !s.data.toList.isEmpty := by
  unfold tokB
  have : s.data.toList.all (fun c => tchI (c.toNat : Int)) = true := by
    rw [List.all_eq_true]
    intro c hc
    obtain ⟨j, hj, e⟩ := List.getElem_of_mem hc
    exact h j c (by rw [List.getElem?_eq_getElem hj, e])
  rw [this]
  rfl
theorem all_step {p : UInt8 → Prop} {l : List UInt8} {k : Nat} {c : UInt8} (h : ∀ (j : Nat) (c : UInt8), j < k → l[j]? = some c → p c) (hc : l[k]? = some c) (hp : p c) : ∀ (j : Nat) (c : UInt8), j < k + 1 → l[j]? = some c → p c := by
  intro j d hj hd
  rcases Nat.lt_or_ge j k with h1 | h1
  · exact h j d h1 hd
  · obtain rfl : j = k := by omega
    rw [hc] at hd
    injection hd with hd
    rw [← hd]
    exact hp
theorem toList_len (s : ByteArray) : s.data.toList.length = s.size := by
  show s.data.toList.length = s.data.size
  rw [Array.length_toList]
theorem tok_end' (s : ByteArray) (h : ∀ (j : Nat) (c : UInt8), s.data.toList[j]? = some c → tchI (c.toNat : Int) = true) : tokB s = decide (0 < s.size) := by
  rw [tok_end s h, ← toList_len]
  cases s.data.toList <;> rfl
theorem toList_get (s : ByteArray) (k : Nat) (h : k < s.size) : s.data.toList[k]? = some (s[k]'h) := by
  rw [List.getElem?_eq_getElem (by rw [toList_len]; exact h)]
  rfl
theorem rtchar8 (c : UInt8) (w : World) : Calls Tryz.prog 134 #[.int .u8 (c.toNat : Int)] w fun e w' => e = .returned (.bool (tchI (c.toNat : Int))) ∧ Hid (Chg [] w w') := rtchar_any _ w
set_option maxHeartbeats 4000000 in
set_option maxRecDepth 100000 in
theorem rtoken_any (s : ByteArray) (w : World) (hs : s.size ≤ 1048576) :
    Calls Tryz.prog 111 #[.string s] w fun e w' => e = .returned (.bool (tokB s)) ∧ Hid (Chg [] w w') := by
  have hz3 : (s.size : Int) ≤ 1048576 := by omega
  go_enter Tryz.func111, Tryz.ntmps111
  go_wp2
  go_loopw [3] (fun i wr => ∃ k : Nat, k ≤ s.size ∧ i = .int .i64 k ∧ Hid (∀ (j : Nat) (c : UInt8), j < k → s.data.toList[j]? = some c → tchI (c.toNat : Int) = true) ∧ Hid (Chg [] w wr)) (fun i _ => s.size - (intOf i).toNat)
  case atStart => exact ⟨0, by omega, rfl, Lib.hid (fun j c hj => absurd hj (by omega)), Chg.refl _ _⟩
  case round =>
    obtain ⟨k, hk, rfl, HA, HC⟩ := hrel
    by_cases hlt : k < s.size
    · skip
      have hlt2 : (k : Int) < (s.size : Int) := by omega
      go_wp2_with fail
      have hcl := toList_get s k hlt
      generalize s[k]'hlt = c at hcl ⊢
      refine (rtchar8 c _).mono ?_
      rintro e w2 ⟨rfl, H2⟩
      cases ht : tchI (c.toNat : Int)
      · have HM := Lib.hid (tok_no s k c hcl ht)
        clear ht hcl
        go_wp2
        go_ret
        exact ⟨by rw [HM.out]; rfl, HC.out.trans H2.out (by simp)⟩
      · have HA2 := Lib.hid (all_step (p := fun c => tchI (c.toNat : Int) = true) HA.out hcl ht)
        have HC2 := Lib.hid (HC.out.trans H2.out (by simp))
        clear ht hcl HA HC H2
        go_wp2
        go_roundw
        case rel => exact ⟨k + 1, by omega, by go_num, HA2, HC2⟩
        case measure => simp [intOf]; omega
    · obtain rfl : k = s.size := by omega
      have HM := Lib.hid (tok_end' s (fun j c hc => HA.out j c (by rw [← toList_len]; exact (List.getElem?_eq_some_iff.1 hc).1) hc))
      go_wp2
      go_ret
      exact ⟨by rw [HM.out]; rfl, HC.out⟩
/-- The letters of a value. -/
def okV (n : Nat) : Bool := decide (n = 9 ∨ (32 ≤ n ∧ n ≠ 127))
def bl2 : List UInt8 := [32, 9]
def valB (s : ByteArray) : Bool := s.data.toList.all (fun c => okV c.toNat) && decide (Lib.trimS s.data.toList bl2 = s.data.toList)
theorem bl2_iff (c : UInt8) : bl2.contains c = decide ((c.toNat : Int) = 9 ∨ (c.toNat : Int) = 32) := by
  by_cases h : c = 32
  · subst h; rfl
  · by_cases h2 : c = 9
    · subst h2; rfl
    · have e1 : ¬ (c.toNat : Int) = 9 := fun e => h2 (UInt8.toNat_inj.1 (by show c.toNat = 9; omega))
      have e2 : ¬ (c.toNat : Int) = 32 := fun e => h (UInt8.toNat_inj.1 (by show c.toNat = 32; omega))
      rw [decide_eq_false (by rintro (e | e); exact e1 e; exact e2 e)]
      unfold bl2
      simp [h, h2]
theorem dropWhile_eq_self {p : UInt8 → Bool} : ∀ (l : List UInt8), l.dropWhile p = l ↔ ∀ c, l[0]? = some c → p c = false
  | [] => by simp
  | a :: l => by
    rw [List.dropWhile_cons]
    constructor
    · intro h c hc
      simp at hc
      subst hc
      cases hp : p a
      · rfl
      · rw [hp] at h
        simp at h
        have h1 := (List.dropWhile_suffix p (l := l)).length_le
        rw [h] at h1
        simp at h1
        omega
    · intro h
      have := h a rfl
      rw [this]
      simp
theorem trimR_self (l cs : List UInt8) : Lib.trimRightS l cs = l ↔ ∀ c, l.reverse[0]? = some c → cs.contains c = false := by
  unfold Lib.trimRightS
  rw [← dropWhile_eq_self, ← List.reverse_inj, List.reverse_reverse]
theorem trim_self (l cs : List UInt8) : Lib.trimS l cs = l ↔ (∀ c, l[0]? = some c → cs.contains c = false) ∧ ∀ c, l.reverse[0]? = some c → cs.contains c = false := by
  rw [← trimR_self]
  unfold Lib.trimS
  constructor
  · intro h
    have h1 : (Lib.trimLeftS (Lib.trimRightS l cs) cs).length ≤ (Lib.trimRightS l cs).length := (List.dropWhile_suffix _).length_le
    have h2 : (Lib.trimRightS l cs).length ≤ l.length := by
      unfold Lib.trimRightS
      rw [List.length_reverse]
      have := (List.dropWhile_suffix (cs.contains ·) (l := l.reverse)).length_le
      rw [List.length_reverse] at this
      exact this
    rw [h] at h1
    have h3 : Lib.trimRightS l cs = l := by
      have e1 : (Lib.trimRightS l cs).length = l.length := by omega
      unfold Lib.trimRightS at e1 ⊢
      have h5 := List.IsSuffix.eq_of_length (List.dropWhile_suffix (cs.contains ·) (l := l.reverse)) (by rw [List.length_reverse] at e1 ⊢; omega)
      rw [h5, List.reverse_reverse]
    refine ⟨?_, h3⟩
    rw [h3] at h
    exact (dropWhile_eq_self l).1 h
  · intro ⟨h1, h2⟩
    rw [h2]
    exact (dropWhile_eq_self l).2 h1
end Go.Proofs.YtjndgkbikhndoaaGreatDoor.E
