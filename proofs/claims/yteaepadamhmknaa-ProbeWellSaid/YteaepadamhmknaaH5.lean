/- The reference's Bring; and what Bring answers to no set and to no moment. -/
import Derived.Test.YteaepadamhmknaaH4
namespace Go.Proofs.Yteaepadamhmknaa
open Go.RowKit
set_option linter.unusedVariables false

theorem bring_nil (now : Int) (n0 : 0 ≤ now) (n1 : now ≤ 4611686018427387904) (w : World) : Calls Try.prog 18 #[.pointer none, .int .i64 now] w fun e w' => e = .returned (.tuple #[.slice none 0 0, .int .i64 0]) ∧ w = w' := by
  go_enter Try.func18, Try.ntmps18
  go_wp2_with (first | (go_at_call 34; (with_reducible refine (add_zero now n0 n1 _).mono ?_); rintro e w' ⟨rfl, rfl⟩))
  go_ret2
  exact ⟨rfl, rfl⟩
theorem bring_bad (p : Option Addr) (now : Int) (h : now < 0 ∨ 4611686018427387904 < now) (w : World) : Calls Try.prog 18 #[.pointer p, .int .i64 now] w fun e w' => e = .returned (.tuple #[.slice none 0 0, .int .i64 1]) ∧ w = w' := by
  go_enter Try.func18, Try.ntmps18
  go_wp2_with (first | (go_at_call 34; (with_reducible refine (add_bad now h _).mono ?_); rintro e w' ⟨rfl, rfl⟩))
  go_ret2
  exact ⟨rfl, rfl⟩
theorem rbring_bad (p : Option Addr) (now : Int) (h : now < 0 ∨ 4611686018427387904 < now) (w : World) : Calls Try.prog 37 #[.pointer p, .int .i64 now] w fun e w' => e = .returned (.tuple #[.slice none 0 0, .int .i64 1]) ∧ w = w' := by
  go_enter Try.func37, Try.ntmps37
  go_wp2_with (first | (go_at_call 21; (with_reducible refine (rmoment_no now h _).mono ?_); rintro e w' ⟨rfl, rfl⟩))
  go_ret2
  exact ⟨rfl, rfl⟩
set_option maxHeartbeats 4000000 in
set_option maxRecDepth 100000 in
theorem rbring_any (b g : Nat) (fails base long share last now L : Int) (hs : List Ho) (w : World) (h : Hst 73 79 w b g fails base long share last hs) (hl : hs.length ≤ 16) (n0 : 0 ≤ now) (n1 : now ≤ 4611686018427387904) (hL : (L = now ∧ last < now) ∨ (L = last ∧ now ≤ last)) :
    Calls Try.prog 37 #[.pointer (some ⟨b, 0, none⟩), .int .i64 now] w (BringP 73 79 b g fails base long share L hs w) := by
  have HH := Lib.hid h
  have c4 := h.num.cell 4 _ rfl
  have c5 := h.num.cell 5 _ rfl
  have f4 := h.num.free 4
  have hl2 : (hs.length : Int) ≤ 16 := by omega
  obtain ⟨i0, hi, hz0, hz1, hz2⟩ := info_parts info3
  have HI := Lib.hid (And.intro hi (And.intro hz0 (And.intro hz1 hz2)))
  clear hi hz0 hz1 hz2 h
  rcases hL with ⟨rfl, hlt⟩ | ⟨rfl, hlt⟩
  · go_enter Try.func37, Try.ntmps37
    go_wp2_with (first | (go_at_call 21; (with_reducible refine (rmoment_yes _ n0 n1 _).mono ?_); rintro e w' ⟨rfl, rfl⟩))
    have HW := Lib.hid (show Hst 73 79 (w.setCell ⟨b, 4, none⟩ (.int .i64 L)) b g fails base long share L hs from ⟨HH.out.num.set 4 _, Blk.other HH.out.recs (Ne.symm HH.out.ne) _, HH.out.ne⟩)
    have HC0 := Lib.hid (show Chg [b, g] w (w.setCell ⟨b, 4, none⟩ (.int .i64 L)) from (Chg.refl _ _).setCell (by simp) _)
    go_loopw [6, 27] (fun v i wr => ∃ (k : Nat), k ≤ hs.length ∧ i = .int .i64 k ∧ Hid (Own 3 wr v (dueI L (hs.take k) 0)) ∧ Hid (∀ q, v.ownBlock = some q → w.heap.size ≤ q ∧ q ≠ b ∧ q ≠ g) ∧ Hid (Hst 73 79 wr b g fails base long share L (part L hs k)) ∧ Hid (Chg [b, g] w wr)) (fun _ i _ => hs.length - (intOf i).toNat)
    case atStart => exact ⟨0, by omega, rfl, Own.nil _ _, Lib.hid (by simp [Value.ownBlock]), by rw [part_zero]; exact HW, HC0⟩
    case round =>
      clear c4 c5 f4 HW HC0
      obtain ⟨k, hk, rfl, HO, HF, HS, HC⟩ := hrel
      by_cases hkl : k < hs.length
      · obtain ⟨x, hx⟩ : ∃ x, hs[k]? = some x := ⟨_, List.getElem?_eq_getElem hkl⟩
        have hp := part_get L hs k x hx
        have c4 := HS.out.num.cell 4 _ rfl
        have c5 := HS.out.num.cell 5 _ rfl
        rw [part_len] at c5
        obtain ⟨d0, d1, d2, d3, d4⟩ := HS.out.host hp
        have HX := Lib.hid hx
        have HP := Lib.hid hp
        clear hx hp
        obtain ⟨sick, out, til, row, times⟩ := x
        dsimp only at d0 d1 d2 d3 d4
        go_wp2_with fail
        have hs1 := HC.out.size
        have l1 := HS.out.num.lt
        have l2 := Blk.lt HS.out.recs
        have HSA := Lib.hid (HS.out.frame ((Chg.refl [] wr).alloc (.cells #[.bool sick, .bool out, .int .i64 til, .int .i64 row, .int .i64 times] 79)) (by simp) (by simp))
        have HOA := Lib.hid (HO.out.chg ((Chg.refl [] wr).alloc (.cells #[.bool sick, .bool out, .int .i64 til, .int .i64 row, .int .i64 times] 79)) (by simp))
        have HBA := Lib.hid (Blk.new wr [.bool sick, .bool out, .int .i64 til, .int .i64 row, .int .i64 times] 79)
        have HCA := Lib.hid (HC.out.alloc (.cells #[.bool sick, .bool out, .int .i64 til, .int .i64 row, .int .i64 times] 79))
        have pb : wr.heap.size ≠ b := by omega
        have pg : wr.heap.size ≠ g := by omega
        clear c4 c5 d0 d1 d2 d3 d4 HS HC HO hs1 l1 l2
        generalize wr.alloc (.cells #[.bool sick, .bool out, .int .i64 til, .int .i64 row, .int .i64 times] 79) = wa at *
        generalize wr.heap.size = p at *
        clear wr
        have c4 := HSA.out.num.cell 4 _ rfl
        have b1 := HBA.out.cell 1 _ rfl
        have b2 := HBA.out.cell 2 _ rfl
        cases out
        · have e1 : dueI L (hs.take (k + 1)) 0 = dueI L (hs.take k) 0 := by rw [take_snoc hs k _ HX.out, dueI_snoc]; simp [Ho.due]
          have e2 : part L hs (k + 1) = part L hs k := by
            rw [part_succ L hs k _ HX.out]
            have := set_same HP.out
            simpa [Ho.rst, Ho.due] using this
          have E1 := Lib.hid e1
          have E2 := Lib.hid e2
          clear e1 e2
          go_wp2_with fail
          go_quiet (fail)
          go_wp2_with fail
          go_roundw
          case rel => exact ⟨k + 1, by omega, by go_num, by rw [E1.out]; exact HOA.out.chg ((Chg.refl [] _).drewN _) (by simp), HF, by rw [E2.out]; exact HSA.out.frame ((Chg.refl [] _).drewN _) (by simp) (by simp), HCA.out.drewN _⟩
          case measure => simp [intOf]; omega
        · by_cases hd : til ≤ L
          · have hdu : Ho.due L ⟨sick, true, til, row, times⟩ = true := by simp [Ho.due, hd]
            have e1 : dueI L (hs.take (k + 1)) 0 = dueI L (hs.take k) 0 ++ [((k : Nat) : Int)] := by
              rw [take_snoc hs k _ HX.out, dueI_snoc, if_pos hdu]
              simp
              omega
            have e2 : part L hs (k + 1) = (part L hs k).set k ⟨sick, false, til, 0, times⟩ := by
              rw [part_succ L hs k _ HX.out]
              unfold Ho.rst
              rw [if_pos hdu]
            have E1 := Lib.hid e1
            have E2 := Lib.hid e2
            have hlen : (dueI L (hs.take k) 0).length ≤ 16 := by
              have h1 := dueI_len L (hs.take k) 0
              have h2 : (hs.take k).length ≤ k := List.length_take_le _ _
              omega
            clear e1 e2 hdu
            go_wp2_with fail
            go_quiet (fail)
            have HS2 := Lib.hid (HSA.out.frame ((Chg.refl [] _).drewN nq) (by simp) (by simp))
            have HC2 := Lib.hid (HCA.out.drewN nq)
            have HO2 := Lib.hid (HOA.out.chg ((Chg.refl [] _).drewN nq) (by simp))
            clear c4 b1 b2 HSA HCA HOA HBA
            generalize wa.drewN nq = w3 at *
            have c5 := HS2.out.num.cell 5 _ rfl
            rw [part_len] at c5
            have f1 : w3.frozen? ⟨g, k * 5 + 1, none⟩ = false := Blk.free HS2.out.recs _
            have f3 : w3.frozen? ⟨g, k * 5 + 3, none⟩ = false := Blk.free HS2.out.recs _
            obtain ⟨d0, d1, d2, d3, d4⟩ := HS2.out.host HP.out
            obtain ⟨A, cp, rfl⟩ := HO2.out.form
            have gb := HS2.out.ne
            have HS4 := Lib.hid (show Hst 73 79 ((w3.setCell ⟨g, k * 5 + 1, none⟩ (.bool false)).setCell ⟨g, k * 5 + 3, none⟩ (.int .i64 0)) b g fails base long share L (part L hs (k + 1)) from
              ⟨by rw [E2.out, List.length_set]; exact (HS2.out.num.other (by simpa using HS2.out.ne) _).other (by simpa using HS2.out.ne) _,
               by rw [E2.out, ← List.set_set (a := (⟨sick, false, til, row, times⟩ : Ho))]; exact (HS2.out.recs.set Ho.len HP.out 1 _ ⟨sick, false, til, row, times⟩ (by omega) rfl).set Ho.len (a := (⟨sick, false, til, row, times⟩ : Ho)) (by rw [List.getElem?_set_self (List.getElem?_eq_some_iff.1 HP.out).1]) 3 _ _ (by omega) rfl, HS2.out.ne⟩)
            have hc4 : Chg [g] w3 ((w3.setCell ⟨g, k * 5 + 1, none⟩ (.bool false)).setCell ⟨g, k * 5 + 3, none⟩ (.int .i64 0)) := ((Chg.refl [g] w3).setCell (by simp) _).setCell (by simp) _
            have HC4 := Lib.hid (HC2.out.trans hc4 (by intro i hi _; simp at hi; simp [hi]))
            have HO4 := Lib.hid (HO2.out.chg hc4 (fun q hq => by simpa using (HF.out q hq).2.2))
            clear hc4
            generalize hw4 : (w3.setCell ⟨g, k * 5 + 1, none⟩ (.bool false)).setCell ⟨g, k * 5 + 3, none⟩ (.int .i64 0) = w4 at *
            have HW4 := Lib.hid hw4
            clear hw4
            go_upto_region 12 with fail
            rw [HW4.out]
            clear f1 f3 d0 d1 d2 d3 d4
            go_wp2_with (at_builtin; refine wpList_append_own_at _ rfl _ _ 37 rfl 0 3 i0 (.int .i64 0) 1 8 Try.underlying37 HI.out.1 HI.out.2.1 HI.out.2.2.1 HI.out.2.2.2 rfl (by decide) (.slice A (dueI L (hs.take k) 0).length cp) (dueI L (hs.take k) 0).length ((dueI L (hs.take k) 0).map (Value.int .i64)) rfl (HO4.out.alloc _) ⟨w4.heap.size, 0, none⟩ 1 1 [.int .i64 k] rfl rfl (cell_one_new _ _ _) (by simp [Value.oneCell']) (by unfold maxLen; omega) (by omega) (Nat.zero_le _) ?_; intro v5 w5 hown hgrow _ hat)
            have hc5 : Chg (Value.slice A (dueI L (hs.take k) 0).length cp).ownBlock.toList w4 w5 := ((Chg.refl _ w4).alloc _).grown hgrow (by intro i hi _; simp [hi])
            have hsz : (w4.alloc (.cells #[.int .i64 k] 3)).heap.size = w4.heap.size + 1 := by simp
            have s4 := HC4.out.size
            have l1 := HS4.out.num.lt
            have l2 := Blk.lt HS4.out.recs
            have hfr : ∀ q, v5.ownBlock = some q → w.heap.size ≤ q ∧ q ≠ b ∧ q ≠ g := by
              intro q hq
              rcases hat with hat | hat
              · exact HF.out q (by rw [← hat]; exact hq)
              · rw [hq] at hat
                injection hat with hat
                omega
            have hnb : ∀ q, (q = b ∨ q = g) → q ∉ (Value.slice A (dueI L (hs.take k) 0).length cp).ownBlock.toList := by
              intro q hq hm
              have := HF.out q (by simpa using hm)
              omega
            have HS5 := Lib.hid (HS4.out.frame hc5 (hnb b (.inl rfl)) (hnb g (.inr rfl)))
            have HC5 := Lib.hid (HC4.out.trans hc5 (fun i hi hlt => by have := (HF.out i (by simpa using hi)).1; omega))
            have HO5 := Lib.hid (own_push hown)
            have HF5 := Lib.hid hfr
            clear hown hgrow hat hc5 hsz s4 l1 l2 hfr hnb
            go_roundw
            case rel => exact ⟨k + 1, by omega, by go_num, by rw [E1.out]; exact HO5, HF5, HS5, HC5⟩
            case measure => simp [intOf]; omega
          · have hdu : Ho.due L ⟨sick, true, til, row, times⟩ = false := by simp [Ho.due, hd]
            have e1 : dueI L (hs.take (k + 1)) 0 = dueI L (hs.take k) 0 := by rw [take_snoc hs k _ HX.out, dueI_snoc, hdu]; simp
            have e2 : part L hs (k + 1) = part L hs k := by
              rw [part_succ L hs k _ HX.out]
              have := set_same HP.out
              unfold Ho.rst
              rw [hdu]
              simpa using this
            have E1 := Lib.hid e1
            have E2 := Lib.hid e2
            clear e1 e2 hdu
            go_wp2_with fail
            go_quiet (fail)
            go_wp2_with fail
            go_roundw
            case rel => exact ⟨k + 1, by omega, by go_num, by rw [E1.out]; exact HOA.out.chg ((Chg.refl [] _).drewN _) (by simp), HF, by rw [E2.out]; exact HSA.out.frame ((Chg.refl [] _).drewN _) (by simp) (by simp), HCA.out.drewN _⟩
            case measure => simp [intOf]; omega
      · have e : k = hs.length := by omega
        have E1 := Lib.hid (show hs.take k = hs by rw [e]; simp)
        have E2 := Lib.hid (show part L hs k = hs.map (Ho.rst L) by rw [e, part_all])
        rw [E1.out] at HO
        rw [E2.out] at HS
        go_wp2_with fail
        go_ret2
        exact ⟨_, rfl, HO.out, fun q hq => (HF.out q hq).1, HS.out, HC.out⟩
  · go_enter Try.func37, Try.ntmps37
    go_wp2_with (first | (go_at_call 21; (with_reducible refine (rmoment_yes _ n0 n1 _).mono ?_); rintro e w' ⟨rfl, rfl⟩))
    have HW := HH
    have HC0 := Lib.hid (Chg.refl [b, g] w)
    go_loopw [6, 27] (fun v i wr => ∃ (k : Nat), k ≤ hs.length ∧ i = .int .i64 k ∧ Hid (Own 3 wr v (dueI L (hs.take k) 0)) ∧ Hid (∀ q, v.ownBlock = some q → w.heap.size ≤ q ∧ q ≠ b ∧ q ≠ g) ∧ Hid (Hst 73 79 wr b g fails base long share L (part L hs k)) ∧ Hid (Chg [b, g] w wr)) (fun _ i _ => hs.length - (intOf i).toNat)
    case atStart => exact ⟨0, by omega, rfl, Own.nil _ _, Lib.hid (by simp [Value.ownBlock]), by rw [part_zero]; exact HW, HC0⟩
    case round =>
      clear c4 c5 f4 HW HC0
      obtain ⟨k, hk, rfl, HO, HF, HS, HC⟩ := hrel
      by_cases hkl : k < hs.length
      · obtain ⟨x, hx⟩ : ∃ x, hs[k]? = some x := ⟨_, List.getElem?_eq_getElem hkl⟩
        have hp := part_get L hs k x hx
        have c4 := HS.out.num.cell 4 _ rfl
        have c5 := HS.out.num.cell 5 _ rfl
        rw [part_len] at c5
        obtain ⟨d0, d1, d2, d3, d4⟩ := HS.out.host hp
        have HX := Lib.hid hx
        have HP := Lib.hid hp
        clear hx hp
        obtain ⟨sick, out, til, row, times⟩ := x
        dsimp only at d0 d1 d2 d3 d4
        go_wp2_with fail
        have hs1 := HC.out.size
        have l1 := HS.out.num.lt
        have l2 := Blk.lt HS.out.recs
        have HSA := Lib.hid (HS.out.frame ((Chg.refl [] wr).alloc (.cells #[.bool sick, .bool out, .int .i64 til, .int .i64 row, .int .i64 times] 79)) (by simp) (by simp))
        have HOA := Lib.hid (HO.out.chg ((Chg.refl [] wr).alloc (.cells #[.bool sick, .bool out, .int .i64 til, .int .i64 row, .int .i64 times] 79)) (by simp))
        have HBA := Lib.hid (Blk.new wr [.bool sick, .bool out, .int .i64 til, .int .i64 row, .int .i64 times] 79)
        have HCA := Lib.hid (HC.out.alloc (.cells #[.bool sick, .bool out, .int .i64 til, .int .i64 row, .int .i64 times] 79))
        have pb : wr.heap.size ≠ b := by omega
        have pg : wr.heap.size ≠ g := by omega
        clear c4 c5 d0 d1 d2 d3 d4 HS HC HO hs1 l1 l2
        generalize wr.alloc (.cells #[.bool sick, .bool out, .int .i64 til, .int .i64 row, .int .i64 times] 79) = wa at *
        generalize wr.heap.size = p at *
        clear wr
        have c4 := HSA.out.num.cell 4 _ rfl
        have b1 := HBA.out.cell 1 _ rfl
        have b2 := HBA.out.cell 2 _ rfl
        cases out
        · have e1 : dueI L (hs.take (k + 1)) 0 = dueI L (hs.take k) 0 := by rw [take_snoc hs k _ HX.out, dueI_snoc]; simp [Ho.due]
          have e2 : part L hs (k + 1) = part L hs k := by
            rw [part_succ L hs k _ HX.out]
            have := set_same HP.out
            simpa [Ho.rst, Ho.due] using this
          have E1 := Lib.hid e1
          have E2 := Lib.hid e2
          clear e1 e2
          go_wp2_with fail
          go_quiet (fail)
          go_wp2_with fail
          go_roundw
          case rel => exact ⟨k + 1, by omega, by go_num, by rw [E1.out]; exact HOA.out.chg ((Chg.refl [] _).drewN _) (by simp), HF, by rw [E2.out]; exact HSA.out.frame ((Chg.refl [] _).drewN _) (by simp) (by simp), HCA.out.drewN _⟩
          case measure => simp [intOf]; omega
        · by_cases hd : til ≤ L
          · have hdu : Ho.due L ⟨sick, true, til, row, times⟩ = true := by simp [Ho.due, hd]
            have e1 : dueI L (hs.take (k + 1)) 0 = dueI L (hs.take k) 0 ++ [((k : Nat) : Int)] := by
              rw [take_snoc hs k _ HX.out, dueI_snoc, if_pos hdu]
              simp
              omega
            have e2 : part L hs (k + 1) = (part L hs k).set k ⟨sick, false, til, 0, times⟩ := by
              rw [part_succ L hs k _ HX.out]
              unfold Ho.rst
              rw [if_pos hdu]
            have E1 := Lib.hid e1
            have E2 := Lib.hid e2
            have hlen : (dueI L (hs.take k) 0).length ≤ 16 := by
              have h1 := dueI_len L (hs.take k) 0
              have h2 : (hs.take k).length ≤ k := List.length_take_le _ _
              omega
            clear e1 e2 hdu
            go_wp2_with fail
            go_quiet (fail)
            have HS2 := Lib.hid (HSA.out.frame ((Chg.refl [] _).drewN nq) (by simp) (by simp))
            have HC2 := Lib.hid (HCA.out.drewN nq)
            have HO2 := Lib.hid (HOA.out.chg ((Chg.refl [] _).drewN nq) (by simp))
            clear c4 b1 b2 HSA HCA HOA HBA
            generalize wa.drewN nq = w3 at *
            have c5 := HS2.out.num.cell 5 _ rfl
            rw [part_len] at c5
            have f1 : w3.frozen? ⟨g, k * 5 + 1, none⟩ = false := Blk.free HS2.out.recs _
            have f3 : w3.frozen? ⟨g, k * 5 + 3, none⟩ = false := Blk.free HS2.out.recs _
            obtain ⟨d0, d1, d2, d3, d4⟩ := HS2.out.host HP.out
            obtain ⟨A, cp, rfl⟩ := HO2.out.form
            have gb := HS2.out.ne
            have HS4 := Lib.hid (show Hst 73 79 ((w3.setCell ⟨g, k * 5 + 1, none⟩ (.bool false)).setCell ⟨g, k * 5 + 3, none⟩ (.int .i64 0)) b g fails base long share L (part L hs (k + 1)) from
              ⟨by rw [E2.out, List.length_set]; exact (HS2.out.num.other (by simpa using HS2.out.ne) _).other (by simpa using HS2.out.ne) _,
               by rw [E2.out, ← List.set_set (a := (⟨sick, false, til, row, times⟩ : Ho))]; exact (HS2.out.recs.set Ho.len HP.out 1 _ ⟨sick, false, til, row, times⟩ (by omega) rfl).set Ho.len (a := (⟨sick, false, til, row, times⟩ : Ho)) (by rw [List.getElem?_set_self (List.getElem?_eq_some_iff.1 HP.out).1]) 3 _ _ (by omega) rfl, HS2.out.ne⟩)
            have hc4 : Chg [g] w3 ((w3.setCell ⟨g, k * 5 + 1, none⟩ (.bool false)).setCell ⟨g, k * 5 + 3, none⟩ (.int .i64 0)) := ((Chg.refl [g] w3).setCell (by simp) _).setCell (by simp) _
            have HC4 := Lib.hid (HC2.out.trans hc4 (by intro i hi _; simp at hi; simp [hi]))
            have HO4 := Lib.hid (HO2.out.chg hc4 (fun q hq => by simpa using (HF.out q hq).2.2))
            clear hc4
            generalize hw4 : (w3.setCell ⟨g, k * 5 + 1, none⟩ (.bool false)).setCell ⟨g, k * 5 + 3, none⟩ (.int .i64 0) = w4 at *
            have HW4 := Lib.hid hw4
            clear hw4
            go_upto_region 12 with fail
            rw [HW4.out]
            clear f1 f3 d0 d1 d2 d3 d4
            go_wp2_with (at_builtin; refine wpList_append_own_at _ rfl _ _ 37 rfl 0 3 i0 (.int .i64 0) 1 8 Try.underlying37 HI.out.1 HI.out.2.1 HI.out.2.2.1 HI.out.2.2.2 rfl (by decide) (.slice A (dueI L (hs.take k) 0).length cp) (dueI L (hs.take k) 0).length ((dueI L (hs.take k) 0).map (Value.int .i64)) rfl (HO4.out.alloc _) ⟨w4.heap.size, 0, none⟩ 1 1 [.int .i64 k] rfl rfl (cell_one_new _ _ _) (by simp [Value.oneCell']) (by unfold maxLen; omega) (by omega) (Nat.zero_le _) ?_; intro v5 w5 hown hgrow _ hat)
            have hc5 : Chg (Value.slice A (dueI L (hs.take k) 0).length cp).ownBlock.toList w4 w5 := ((Chg.refl _ w4).alloc _).grown hgrow (by intro i hi _; simp [hi])
            have hsz : (w4.alloc (.cells #[.int .i64 k] 3)).heap.size = w4.heap.size + 1 := by simp
            have s4 := HC4.out.size
            have l1 := HS4.out.num.lt
            have l2 := Blk.lt HS4.out.recs
            have hfr : ∀ q, v5.ownBlock = some q → w.heap.size ≤ q ∧ q ≠ b ∧ q ≠ g := by
              intro q hq
              rcases hat with hat | hat
              · exact HF.out q (by rw [← hat]; exact hq)
              · rw [hq] at hat
                injection hat with hat
                omega
            have hnb : ∀ q, (q = b ∨ q = g) → q ∉ (Value.slice A (dueI L (hs.take k) 0).length cp).ownBlock.toList := by
              intro q hq hm
              have := HF.out q (by simpa using hm)
              omega
            have HS5 := Lib.hid (HS4.out.frame hc5 (hnb b (.inl rfl)) (hnb g (.inr rfl)))
            have HC5 := Lib.hid (HC4.out.trans hc5 (fun i hi hlt => by have := (HF.out i (by simpa using hi)).1; omega))
            have HO5 := Lib.hid (own_push hown)
            have HF5 := Lib.hid hfr
            clear hown hgrow hat hc5 hsz s4 l1 l2 hfr hnb
            go_roundw
            case rel => exact ⟨k + 1, by omega, by go_num, by rw [E1.out]; exact HO5, HF5, HS5, HC5⟩
            case measure => simp [intOf]; omega
          · have hdu : Ho.due L ⟨sick, true, til, row, times⟩ = false := by simp [Ho.due, hd]
            have e1 : dueI L (hs.take (k + 1)) 0 = dueI L (hs.take k) 0 := by rw [take_snoc hs k _ HX.out, dueI_snoc, hdu]; simp
            have e2 : part L hs (k + 1) = part L hs k := by
              rw [part_succ L hs k _ HX.out]
              have := set_same HP.out
              unfold Ho.rst
              rw [hdu]
              simpa using this
            have E1 := Lib.hid e1
            have E2 := Lib.hid e2
            clear e1 e2 hdu
            go_wp2_with fail
            go_quiet (fail)
            go_wp2_with fail
            go_roundw
            case rel => exact ⟨k + 1, by omega, by go_num, by rw [E1.out]; exact HOA.out.chg ((Chg.refl [] _).drewN _) (by simp), HF, by rw [E2.out]; exact HSA.out.frame ((Chg.refl [] _).drewN _) (by simp) (by simp), HCA.out.drewN _⟩
            case measure => simp [intOf]; omega
      · have e : k = hs.length := by omega
        have E1 := Lib.hid (show hs.take k = hs by rw [e]; simp)
        have E2 := Lib.hid (show part L hs k = hs.map (Ho.rst L) by rw [e, part_all])
        rw [E1.out] at HO
        rw [E2.out] at HS
        go_wp2_with fail
        go_ret2
        exact ⟨_, rfl, HO.out, fun q hq => (HF.out q hq).1, HS.out, HC.out⟩
end Go.Proofs.Yteaepadamhmknaa
