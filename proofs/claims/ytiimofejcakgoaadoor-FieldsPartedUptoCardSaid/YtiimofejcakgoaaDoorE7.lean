/- Layer 5 (bytes): the reference's Trim. -/
import Derived.Test.YtiimofejcakgoaaDoorE6
namespace Go.Proofs.YtiimofejcakgoaaDoor
open Go.RowKit Go.ChangeShapes Go.WideShapes
set_option linter.unusedVariables false

theorem trimR_cons (x : UInt8) (l cs : List UInt8) : Lib.trimRightS (x :: l) cs = if (Lib.trimRightS l cs).isEmpty then (if cs.contains x then [] else [x]) else x :: Lib.trimRightS l cs := by
  unfold Lib.trimRightS
  rw [List.reverse_cons, List.dropWhile_append, List.isEmpty_reverse]
  split
  · rw [List.dropWhile_cons]
    split <;> rfl
  · rw [List.reverse_append]
    rfl
theorem trim_comm (l cs : List UInt8) : Lib.trimRightS (Lib.trimLeftS l cs) cs = Lib.trimS l cs := by
  unfold Lib.trimS Lib.trimLeftS
  induction l with
  | nil => rfl
  | cons x l ih =>
    rw [trimR_cons]
    cases hx : cs.contains x
    · rw [List.dropWhile_cons, hx]
      simp only [Bool.false_eq_true, if_false]
      rw [trimR_cons, hx]
      simp only [Bool.false_eq_true, if_false]
      split <;> rw [List.dropWhile_cons, hx] <;> rfl
    · rw [List.dropWhile_cons, hx]
      simp only [if_true]
      rw [ih]
      split
      · rename_i h
        rw [List.isEmpty_iff] at h
        rw [h]
      · rw [List.dropWhile_cons, hx]
        rfl
theorem trimL_drop1 (t : ByteArray) (a : UInt8) (l cs : List UInt8) (h : t.data.toList = a :: l) (ha : cs.contains a = true) : Lib.trimLeftS t.data.toList cs = Lib.trimLeftS l cs := by
  rw [h]
  unfold Lib.trimLeftS
  rw [List.dropWhile_cons, ha]
  rfl
theorem trimR_drop1 (t : ByteArray) (a : UInt8) (l cs : List UInt8) (h : t.data.toList = l ++ [a]) (ha : cs.contains a = true) : Lib.trimRightS t.data.toList cs = Lib.trimRightS l cs := by
  rw [h]
  unfold Lib.trimRightS
  rw [List.reverse_append]
  show (List.dropWhile _ (a :: l.reverse)).reverse = _
  rw [List.dropWhile_cons, ha]
  rfl
theorem ext_list (t : ByteArray) (a b : Nat) : (t.extract a b).data.toList = (t.data.toList.drop a).take (b - a) := by
  rw [ByteArray.data_extract]
  simp [List.take_drop]
theorem ext_len (t : ByteArray) (a b : Nat) (hb : b ≤ t.size) : (t.extract a b).size = b - a := by
  rw [← toList_len, ext_list, List.length_take, List.length_drop, toList_len]
  omega
def lenS : Value → Nat
  | .string t => t.size
  | _ => 0
theorem trimL_next (t : ByteArray) (c : UInt8) (h : t.data.toList[0]? = some c) (hc : bl2.contains c = true) : Lib.trimLeftS (t.extract 1 t.size).data.toList bl2 = Lib.trimLeftS t.data.toList bl2 := by
  rw [ext_list]
  cases hl : t.data.toList with
  | nil => rw [hl] at h; simp at h
  | cons a l =>
    have e : c = a := by rw [hl] at h; simp at h; exact h.symm
    have hs : t.size = l.length + 1 := by rw [← toList_len, hl]; rfl
    rw [hs]
    simp only [List.drop_succ_cons, List.drop_zero, Nat.add_sub_cancel, List.take_length]
    unfold Lib.trimLeftS
    rw [List.dropWhile_cons, show bl2.contains a = true from by rw [← e]; exact hc]
    rfl
theorem trimR_next (t : ByteArray) (n : Nat) (c : UInt8) (hn : t.size = n + 1) (h : t.data.toList[n]? = some c) (hc : bl2.contains c = true) : Lib.trimRightS (t.extract 0 n).data.toList bl2 = Lib.trimRightS t.data.toList bl2 := by
  have hl := toList_len t
  have e : t.data.toList = t.data.toList.take n ++ [c] := by
    have h1 := List.take_append_drop n t.data.toList
    have h2 : t.data.toList.drop n = [c] := by
      rw [List.drop_eq_getElem_cons (by omega), List.drop_eq_nil_of_le (by omega)]
      rw [List.getElem?_eq_getElem (by omega)] at h
      injection h with h
      rw [h]
    rw [h2] at h1
    exact h1.symm
  rw [trimR_drop1 t c _ bl2 e hc, ext_list]
  rfl
theorem trimL_stop (t : ByteArray) (h : ∀ c, t.data.toList[0]? = some c → bl2.contains c = false) : Lib.trimLeftS t.data.toList bl2 = t.data.toList := (dropWhile_eq_self _).2 h
theorem trimR_stop (t : ByteArray) (n : Nat) (c : UInt8) (hn : t.size = n + 1) (h : t.data.toList[n]? = some c) (hc : bl2.contains c = false) : Lib.trimRightS t.data.toList bl2 = t.data.toList := by
  refine (trimR_self _ _).2 (fun d hd => ?_)
  have hl := toList_len t
  rw [List.getElem?_reverse (by omega), show t.data.toList.length - 1 - 0 = n by omega, h] at hd
  injection hd with hd
  rw [← hd]; exact hc
theorem nil_list (t : ByteArray) (h : t.size = 0) : t.data.toList = [] := List.eq_nil_of_length_eq_zero (by rw [toList_len]; exact h)
theorem back_list (t : ByteArray) (l : List UInt8) (h : t.data.toList = l) : t = ⟨l.toArray⟩ := by
  rw [← h]
set_option maxHeartbeats 4000000 in
set_option maxRecDepth 100000 in
theorem rtrim_any (s : ByteArray) (w : World) (hs : s.size ≤ 1048576) : Calls Tryd.prog 54 #[.string s] w fun e w' => e = .returned (.string ⟨(Lib.trimS s.data.toList bl2).toArray⟩) ∧ w = w' := by
  go_enter Tryd.func54, Tryd.ntmps54
  go_wp2
  go_loopw [0] (fun v wr => ∃ t : ByteArray, v = .string t ∧ t.size ≤ 1048576 ∧ Hid (Lib.trimLeftS t.data.toList bl2 = Lib.trimLeftS s.data.toList bl2) ∧ w = wr) (fun v _ => lenS v)
  case atStart => exact ⟨s, rfl, hs, Lib.hid rfl, by first | rfl | trivial⟩
  case round =>
    obtain ⟨t, rfl, ht, HT, rfl⟩ := hrel
    by_cases h0 : (t.size : Int) > 0
    · have hlt : 0 < t.size := by omega
      go_wp2_with fail
      refine (rblank_any _ _).mono ?_
      rintro e w' ⟨rfl, rfl⟩
      have hcl := toList_get t 0 hlt
      generalize t[0]'hlt = c at hcl ⊢
      have hbl := bl2_iff c
      generalize decide ((c.toNat : Int) = 9 ∨ (c.toNat : Int) = 32) = z0 at hbl ⊢
      cases z0
      · have HS := Lib.hid (trimL_stop t (fun d hd => by rw [hcl] at hd; injection hd with hd; rw [← hd]; exact hbl))
        clear hcl hbl
        go_wp2
        go_loopw [0] (fun v wr => ∃ q : ByteArray, v = .string q ∧ q.size ≤ 1048576 ∧ Hid (Lib.trimRightS q.data.toList bl2 = Lib.trimS s.data.toList bl2) ∧ w = wr) (fun v _ => lenS v)
        case atStart => exact ⟨t, rfl, ht, Lib.hid (by rw [← trim_comm, ← HT.out, HS.out]), by first | rfl | trivial⟩
        case round =>
          obtain ⟨q, rfl, hq, HQ, rfl⟩ := hrel
          by_cases h1 : (q.size : Int) > 0
          · obtain ⟨n, hn⟩ : ∃ n, q.size = n + 1 := ⟨q.size - 1, by omega⟩
            have hcl := toList_get q n (by omega)
            have HN := Lib.hid hn
            have hn2 : (q.size : Int) = (n : Int) + 1 := by omega
            have hlen := Lib.hid (ext_len q 0 n (by omega))
            go_wp2_with fail
            refine (rblank_any _ _).mono ?_
            rintro e w' ⟨rfl, rfl⟩
            generalize q[n]'(by omega) = c at hcl ⊢
            have hbl := bl2_iff c
            generalize decide ((c.toNat : Int) = 9 ∨ (c.toNat : Int) = 32) = z0 at hbl ⊢
            cases z0
            · have HE := Lib.hid (back_list q _ ((trimR_stop q n c HN.out hcl hbl).symm.trans HQ.out))
              clear hcl hbl
              go_wp2
              go_ret
              exact ⟨by rw [← HE.out]; rfl, by first | rfl | trivial⟩
            · have HQ2 := Lib.hid ((trimR_next q n c HN.out hcl hbl).trans HQ.out)
              clear hcl hbl
              go_wp2
              go_roundw
              case rel => exact ⟨_, rfl, by rw [hlen.out]; omega, HQ2, by first | rfl | trivial⟩
              case measure => simp only [lenS]; rw [hlen.out, HN.out]; omega
          · have HE := Lib.hid (back_list q _ ((nil_list q (by omega)).trans (show [] = Lib.trimS s.data.toList bl2 by rw [← HQ.out, nil_list q (by omega)]; rfl)))
            go_wp2
            go_ret
            exact ⟨by rw [← HE.out]; rfl, by first | rfl | trivial⟩
      · have HT2 := Lib.hid ((trimL_next t c hcl hbl).trans HT.out)
        have hlen := Lib.hid (ext_len t 1 t.size (Nat.le_refl _))
        clear hcl hbl
        go_wp2
        go_roundw
        case rel => exact ⟨_, rfl, by rw [hlen.out]; omega, HT2, by first | rfl | trivial⟩
        case measure => simp only [lenS]; rw [hlen.out]; omega
    · have HS := Lib.hid (trimL_stop t (fun d hd => by rw [nil_list t (by omega)] at hd; simp at hd))
      go_wp2
      go_loopw [0] (fun v wr => ∃ q : ByteArray, v = .string q ∧ q.size ≤ 1048576 ∧ Hid (Lib.trimRightS q.data.toList bl2 = Lib.trimS s.data.toList bl2) ∧ w = wr) (fun v _ => lenS v)
      case atStart => exact ⟨t, rfl, ht, Lib.hid (by rw [← trim_comm, ← HT.out, HS.out]), by first | rfl | trivial⟩
      case round =>
        obtain ⟨q, rfl, hq, HQ, rfl⟩ := hrel
        by_cases h1 : (q.size : Int) > 0
        · obtain ⟨n, hn⟩ : ∃ n, q.size = n + 1 := ⟨q.size - 1, by omega⟩
          have hcl := toList_get q n (by omega)
          have HN := Lib.hid hn
          have hn2 : (q.size : Int) = (n : Int) + 1 := by omega
          have hlen := Lib.hid (ext_len q 0 n (by omega))
          go_wp2_with fail
          refine (rblank_any _ _).mono ?_
          rintro e w' ⟨rfl, rfl⟩
          generalize q[n]'(by omega) = c at hcl ⊢
          have hbl := bl2_iff c
          generalize decide ((c.toNat : Int) = 9 ∨ (c.toNat : Int) = 32) = z0 at hbl ⊢
          cases z0
          · have HE := Lib.hid (back_list q _ ((trimR_stop q n c HN.out hcl hbl).symm.trans HQ.out))
            clear hcl hbl
            go_wp2
            go_ret
            exact ⟨by rw [← HE.out]; rfl, by first | rfl | trivial⟩
          · have HQ2 := Lib.hid ((trimR_next q n c HN.out hcl hbl).trans HQ.out)
            clear hcl hbl
            go_wp2
            go_roundw
            case rel => exact ⟨_, rfl, by rw [hlen.out]; omega, HQ2, by first | rfl | trivial⟩
            case measure => simp only [lenS]; rw [hlen.out, HN.out]; omega
        · have HE := Lib.hid (back_list q _ ((nil_list q (by omega)).trans (show [] = Lib.trimS s.data.toList bl2 by rw [← HQ.out, nil_list q (by omega)]; rfl)))
          go_wp2
          go_ret
          exact ⟨by rw [← HE.out]; rfl, by first | rfl | trivial⟩
end Go.Proofs.YtiimofejcakgoaaDoor
