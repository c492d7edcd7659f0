/- Layer 5 (bytes): the program's List. -/
import Derived.Test.YtiimofejcakgoaaDoorEB
namespace Go.Proofs.YtiimofejcakgoaaDoor
open Go.RowKit Go.ChangeShapes Go.WideShapes
set_option linter.unusedVariables false

/-- What the loop of the program's List keeps. -/
def PInv (R : List ByteArray) (l : List UInt8) (k fr : Nat) (dn : List ByteArray) (q : Bool) : Prop :=
  dn.length ≤ fr ∧ fr ≤ l.length ∧ (k ≤ l.length → fr ≤ k ∧ dn ++ goL ((l.drop fr).take (k - fr)) q false (l.drop k) = R) ∧ (l.length < k → k = l.length + 1 ∧ dn ++ emit ((l.drop fr).take (l.length - fr)) = R)
theorem PutSt.start (w : World) (s : ByteArray) : PutSt w w.heap.size (((w.alloc (.cells #[.string s] 9)).alloc (.cells #[.slice none 0 0] 29)).alloc (.cells #[.int .i64 0] 3)) s 0 (.slice none 0 0) [] := by
  refine ⟨((Blk.new w [.string s] 9).alloc _).alloc _, ?_, OwnS.nil _ _, ?_, (((Chg.refl [] w).alloc _).alloc _).alloc _, Nat.le_refl _⟩
  · have := (Blk.new (w.alloc (.cells #[.string s] 9)) [.slice none 0 0] 29).alloc (.cells #[.int .i64 0] 3)
    rw [show (w.alloc (.cells #[.string s] 9)).heap.size = w.heap.size + 1 by simp] at this
    exact this
  · have := Blk.new ((w.alloc (.cells #[.string s] 9)).alloc (.cells #[.slice none 0 0] 29)) [.int .i64 0] 3
    rw [show ((w.alloc (.cells #[.string s] 9)).alloc (.cells #[.slice none 0 0] 29)).heap.size = w.heap.size + 2 by simp] at this
    exact this
theorem tk_next {l : List UInt8} {k fr : Nat} {c : UInt8} (h : fr ≤ k) (hc : l[k]? = some c) : (l.drop fr).take (k + 1 - fr) = (l.drop fr).take (k - fr) ++ [c] := by
  rw [show k + 1 - fr = (k - fr) + 1 by omega, List.take_add_one, List.getElem?_drop, show fr + (k - fr) = k by omega, hc]
  rfl
theorem pnext {R : List ByteArray} {l : List UInt8} {k fr : Nat} {dn : List ByteArray} {q q' : Bool} {c : UInt8} (h : PInv R l k fr dn q) (hc : l[k]? = some c) (h4 : ¬ (c.toNat = 44 ∧ q = false)) (hq : nq q false c = q') (hs : ns q false c = false) : PInv R l (k + 1) fr dn q' := by
  have hk := (List.getElem?_eq_some_iff.1 hc).1
  obtain ⟨h1, h2⟩ := h.2.2.1 (by omega)
  refine ⟨h.1, h.2.1, fun _ => ⟨by omega, ?_⟩, fun hlt => by omega⟩
  rw [tk_next h1 hc]
  exact goL_next h2 hc h4 hq hs
theorem pskip {R : List ByteArray} {l : List UInt8} {k fr : Nat} {dn : List ByteArray} {c : UInt8} (h : PInv R l k fr dn true) (hc : l[k]? = some c) (h9 : c.toNat = 92) : PInv R l (k + 1 + 1) fr dn true := by
  have hk := (List.getElem?_eq_some_iff.1 hc).1
  obtain ⟨h1, h2⟩ := h.2.2.1 (by omega)
  have h3 := goL_next h2 hc (by omega) (nq_92 true c h9) (ns_92 true c h9)
  rw [← tk_next h1 hc] at h3
  refine ⟨h.1, h.2.1, fun hle => ⟨by omega, ?_⟩, fun hlt => ⟨by omega, ?_⟩⟩
  · have hd : l[k + 1]? = some l[k + 1] := List.getElem?_eq_getElem (by omega)
    rw [tk_next (by omega) hd]
    exact goL_next h3 hd (by simp) (nq_skip true _) (ns_skip true _)
  · have := goL_end h3 (by omega)
    rw [show l.length - fr = k + 1 - fr by omega]
    exact this
theorem pcomma {R : List ByteArray} {l : List UInt8} {k fr : Nat} {dn : List ByteArray} {c : UInt8} (h : PInv R l k fr dn false) (hc : l[k]? = some c) (h4 : c.toNat = 44) : PInv R l (k + 1) (k + 1) (dn ++ emit ((l.drop fr).take (k - fr))) false := by
  have hk := (List.getElem?_eq_some_iff.1 hc).1
  obtain ⟨h1, h2⟩ := h.2.2.1 (by omega)
  refine ⟨?_, by omega, fun _ => ⟨Nat.le_refl _, ?_⟩, fun hlt => by omega⟩
  · rw [List.length_append]
    have := emit_len ((l.drop fr).take (k - fr))
    have := h.1
    omega
  · rw [Nat.sub_self, List.take_zero]
    exact goL_comma h2 hc h4
theorem pend {R : List ByteArray} {l : List UInt8} {k fr : Nat} {dn : List ByteArray} {q : Bool} (h : PInv R l k fr dn q) (hk : l.length ≤ k) : dn ++ emit ((l.drop fr).take (l.length - fr)) = R := by
  rcases Nat.lt_or_ge l.length k with hlt | hge
  · exact (h.2.2.2 hlt).2
  · obtain rfl : k = l.length := by omega
    obtain ⟨h1, h2⟩ := h.2.2.1 (Nat.le_refl _)
    exact goL_end h2 (Nat.le_refl _)
set_option maxHeartbeats 8000000 in
set_option maxRecDepth 100000 in
theorem list_any (s : ByteArray) (w : World) (hs : s.size ≤ 1048576) :
    Calls Tryd.prog 35 #[.string s] w fun e w' => ∃ v, e = .returned v ∧ Hid (OwnS w.heap.size w' v (listB s.data.toList)) ∧ Hid (Chg [] w w') := by
  have hz3 : (s.size : Int) ≤ 1048576 := by omega
  have HSZ := Lib.hid (toList_len s)
  go_enter Tryd.func35, Tryd.ntmps35
  go_wp2
  go_loopw [5, 7] (fun q i wr => ∃ (k fr : Nat) (v : Value) (dn : List ByteArray) (Q : Bool), i = .int .i64 k ∧ q = .bool Q ∧ k ≤ s.size + 1 ∧ Hid (PInv (listB s.data.toList) s.data.toList k fr dn Q) ∧ Hid (PutSt w w.heap.size wr s fr v dn)) (fun _ i _ => s.size + 1 - (intOf i).toNat)
  case atStart => exact ⟨0, 0, _, [], false, rfl, rfl, by omega, Lib.hid ⟨Nat.le_refl _, Nat.zero_le _, fun _ => ⟨Nat.le_refl _, rfl⟩, fun h => absurd h (by omega)⟩, Lib.hid (PutSt.start w s)⟩
  case round =>
    obtain ⟨k, fr, v, dn, Q, rfl, rfl, hk, HP, HM⟩ := hrel
    have c1 := HM.out.bs.cell 0 _ rfl
    by_cases hlt : k < s.size
    · have hlt2 : (k : Int) < (s.size : Int) := by omega
      have HCL := Lib.hid (toList_get s k hlt)
      by_cases h34 : ((s[k]'hlt).toNat : Int) = 34
      · have e1 : (((s[k]'hlt).toNat : Int) == 34) = true := beq_iff_eq.2 h34
        have HN := Lib.hid (pnext HP.out HCL.out (by omega) (nq_34 _ _ (by omega)) (ns_other _ _ (by omega)))
        clear h34
        cases Q
        · skip
          go_wp2
          go_roundw
          case rel => exact ⟨k + 1, fr, v, dn, true, by go_num, rfl, by omega, HN, HM⟩
          case measure => simp [intOf]; omega
        · skip
          go_wp2
          go_roundw
          case rel => exact ⟨k + 1, fr, v, dn, false, by go_num, rfl, by omega, HN, HM⟩
          case measure => simp [intOf]; omega
      · have e1 : (((s[k]'hlt).toNat : Int) == 34) = false := beq_eq_false_iff_ne.2 h34
        by_cases h92 : ((s[k]'hlt).toNat : Int) = 92
        · have e2 : (((s[k]'hlt).toNat : Int) == 92) = true := beq_iff_eq.2 h92
          cases Q
          · have HN := Lib.hid (pnext HP.out HCL.out (by omega) (nq_92 _ _ (by omega)) (ns_92 _ _ (by omega)))
            clear h34 h92
            go_wp2
            go_roundw
            case rel => exact ⟨k + 1, fr, v, dn, false, by go_num, rfl, by omega, HN, HM⟩
            case measure => simp [intOf]; omega
          · have HN := Lib.hid (pskip HP.out HCL.out (by omega))
            clear h34 h92
            have HKK := Lib.hid (show k + 1 + 1 ≤ s.size + 1 by omega)
            go_wp2
            go_roundw
            case rel => exact ⟨k + 1 + 1, fr, v, dn, _, by first | go_num | (congr 1; omega), rfl, HKK.out, HN, HM⟩
            case measure => simp [intOf]; omega
        · have e2 : (((s[k]'hlt).toNat : Int) == 92) = false := beq_eq_false_iff_ne.2 h92
          by_cases h44 : ((s[k]'hlt).toNat : Int) = 44
          · have e3 : (((s[k]'hlt).toNat : Int) == 44) = true := beq_iff_eq.2 h44
            cases Q
            · have HN := Lib.hid (pcomma HP.out HCL.out (by omega))
              have HF := Lib.hid (HP.out.2.2.1 (by rw [HSZ.out]; omega)).1
              have HD := Lib.hid HP.out.1
              clear h34 h92 h44
              go_wp2_with fail
              refine (put_any w w.heap.size wr s fr k v dn hs HF.out (by omega) (by have := HD.out; have := HF.out; omega) HM).mono ?_
              rintro e w2 ⟨rfl, v2, HM2⟩
              go_wp2
              go_roundw
              case rel => exact ⟨k + 1, k + 1, v2, _, false, by go_num, rfl, by omega, HN, HM2⟩
              case measure => simp [intOf]; omega
            · have HN := Lib.hid (pnext HP.out HCL.out (by simp) (nq_other _ _ (by omega) (by omega)) (ns_other _ _ (by omega)))
              clear h34 h92 h44
              go_wp2
              go_roundw
              case rel => exact ⟨k + 1, fr, v, dn, true, by go_num, rfl, by omega, HN, HM⟩
              case measure => simp [intOf]; omega
          · have e3 : (((s[k]'hlt).toNat : Int) == 44) = false := beq_eq_false_iff_ne.2 h44
            have HN := Lib.hid (pnext HP.out HCL.out (by omega) (nq_other _ _ (by omega) (by omega)) (ns_other _ _ (by omega)))
            clear h34 h92 h44
            go_wp2
            go_roundw
            case rel => exact ⟨k + 1, fr, v, dn, Q, by go_num, rfl, by omega, HN, HM⟩
            case measure => simp [intOf]; omega
    · have hnl : ¬ (k : Int) < (s.size : Int) := by omega
      have HE := Lib.hid (pend HP.out (by rw [HSZ.out]; omega))
      rw [HSZ.out] at HE
      have HF := Lib.hid HP.out.2.1
      rw [HSZ.out] at HF
      have HD := Lib.hid HP.out.1
      have hfr : (fr : Int) ≤ (s.size : Int) := by have := HF.out; omega
      have c2 := HM.out.bf.cell 0 _ rfl
      go_wp2_with fail
      refine (put_any w w.heap.size wr s fr s.size v dn hs HF.out (Nat.le_refl _) (by have := HD.out; have := HF.out; omega) HM).mono ?_
      rintro e w2 ⟨rfl, v2, HM2⟩
      rw [HE.out] at HM2
      obtain ⟨A, cp, rfl⟩ := HM2.out.own.form
      have c3 := HM2.out.bo.cell 0 _ rfl
      go_wp2
      go_ret
      exact ⟨_, rfl, Lib.hid (HM2.out.own.lower (show w.heap.size ≤ w.heap.size + 3 by omega)), HM2.out.chg⟩
end Go.Proofs.YtiimofejcakgoaaDoor
