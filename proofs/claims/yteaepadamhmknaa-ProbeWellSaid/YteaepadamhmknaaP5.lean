/- Layer 19: Next, where there is one host; speaks. -/
import Derived.Test.YteaepadamhmknaaP4
namespace Go.Proofs.Yteaepadamhmknaa
open Go.RowKit
set_option linter.unusedVariables false

theorem first_one (A : Option Addr) (c : Nat) (t : Int) (t0 : 0 ≤ t) (t1 : t ≤ 4611686018427387904) (w : World) (h : Ints w .i64 A 1 [t]) : Calls Try.prog 43 #[.slice A 1 c] w fun e w' => e = .returned (.tuple #[.int .i64 t, .bool true]) ∧ w = w' := by
  obtain ⟨x, rfl, hx⟩ := h.2 (by omega)
  have cx := hx 0 (by omega)
  simp only [List.getD_cons_zero] at cx
  have cy : w.cell? x = some (.int .i64 t) := by simpa [Addr.add] using cx
  clear hx h cx
  go_enter Try.func43, Try.ntmps43
  go_wp2
  go_loopw [4, 5, 10] (fun a b i wr => ∃ k : Nat, k ≤ 1 ∧ i = .int .i64 k ∧ a = .int .i64 (if k = 0 then 0 else t) ∧ b = .bool (decide (k = 1)) ∧ wr = w) (fun _ _ i _ => 1 - (intOf i).toNat)
  case atStart => exact ⟨0, by omega, rfl, rfl, rfl, rfl⟩
  case round =>
    obtain ⟨k, hk, rfl, rfl, rfl, rfl⟩ := hrel
    rcases (show k = 0 ∨ k = 1 by omega) with rfl | rfl
    · go_wp2_with (first | (go_at_call 44; (with_reducible refine (moment_yes t t0 t1 _).mono ?_); rintro e w' ⟨rfl, rfl⟩))
      go_roundw
      case rel => exact ⟨1, by omega, rfl, rfl, rfl, trivial⟩
      case measure => simp [intOf]
    · go_wp2_with fail
      go_ret2
      exact ⟨rfl, rfl⟩
theorem next_nil (w : World) : Calls Try.prog 32 #[.pointer none] w fun e w' => e = .returned (.tuple #[.int .i64 0, .bool false]) ∧ w = w' := by
  go_enter Try.func32, Try.ntmps32
  go_wp2
  go_ret2
  exact ⟨rfl, rfl⟩
set_option maxHeartbeats 4000000 in
set_option maxRecDepth 100000 in
theorem next_one (b g : Nat) (every timeout up down last : Int) (x : Ho) (w : World) (h : Hst 83 85 w b g every timeout up down last [x]) (he : 0 < every) (ht : 0 ≤ timeout ∧ timeout ≤ 1000000) (q0 : 0 ≤ x.til) (q1 : x.til ≤ 4611686018427387904) (t : Int) (htv : whenV timeout x = t) (t0 : 0 ≤ t) (t1 : t ≤ 4611686018427387904) :
    Calls Try.prog 32 #[.pointer (some ⟨b, 0, none⟩)] w fun e w' => e = .returned (.tuple #[.int .i64 t, .bool true]) ∧ Hid (Chg [] w w') := by
  have HH := Lib.hid h
  have c5 := h.num.cell 5 _ rfl
  have c0 := h.num.cell 0 _ rfl
  have he2 : (every == 0) = false := beq_eq_false_iff_ne.2 (by omega)
  obtain ⟨i0, hi, hz0, hz1, hz2⟩ := info_parts info3
  have HI := Lib.hid (And.intro hi (And.intro hz0 (And.intro hz1 hz2)))
  have HTV := Lib.hid htv
  have hb0 := h.num.lt
  have hg0 := Blk.lt h.recs
  clear hi hz0 hz1 hz2 h htv
  obtain ⟨sick, out, til, row, times⟩ := x
  dsimp only at q0 q1
  go_enter Try.func32, Try.ntmps32
  go_wp2_with fail
  go_loopw [4, 22] (fun v i wr => ∃ (k : Nat), k ≤ 1 ∧ i = .int .i64 k ∧ Hid (k = 0 → v = .slice none 0 0) ∧ Hid (Own 3 wr v ([t].take k)) ∧ Hid (Chg [] w wr)) (fun _ i _ => 1 - (intOf i).toNat)
  case atStart => exact ⟨0, by omega, rfl, Lib.hid (fun _ => rfl), Own.nil _ _, Chg.refl _ _⟩
  case round =>
    clear c5 c0
    obtain ⟨k, hk, rfl, HV0, HO, HC⟩ := hrel
    rcases (show k = 0 ∨ k = 1 by omega) with rfl | rfl
    · obtain ⟨d0, d1, d2, d3, d4⟩ := (HH.out.frame HC.out (by simp) (by simp)).host (k := 0) rfl
      dsimp only at d0 d1 d2 d3 d4
      rw [Nat.zero_mul] at d0 d1 d2 d3 d4
      rw [Nat.zero_add] at d1 d2 d3 d4
      obtain rfl := HV0.out rfl
      go_wp2_with fail
      refine (when_any b g every timeout up down last [⟨sick, out, til, row, times⟩] _ (HH.out.frame (HC.out.alloc _) (by simp) (by simp)) ht ⟨sick, out, til, row, times⟩ q0 q1).mono ?_
      rintro e w3 ⟨rfl, HW⟩
      rw [HTV.out]
      have HC3 := Lib.hid ((HC.out.alloc _).trans HW.out (by simp))
      have HO3 := Lib.hid ((HO.out.chg ((Chg.refl [] wr).alloc _) (by simp)).chg HW.out (by simp))
      go_wp2_with (at_builtin; refine wpList_append_own_at _ rfl _ _ 37 rfl 0 3 i0 (.int .i64 0) 1 8 Try.underlying37 HI.out.1 HI.out.2.1 HI.out.2.2.1 HI.out.2.2.2 rfl (by decide) (.slice none 0 0) 0 [] rfl (HO3.out.alloc _) ⟨w3.heap.size, 0, none⟩ 1 1 [.int .i64 t] rfl rfl (cell_one_new _ _ _) (by simp [Value.oneCell']) (by unfold maxLen; omega) (by omega) (Nat.zero_le _) ?_; intro v5 w5 hown hgrow _ hat)
      have HO5 := Lib.hid (show Own 3 w5 v5 [t] from hown)
      have HC5 := Lib.hid (HC3.out.trans (((Chg.refl [] w3).alloc _).grown hgrow (by simp [Value.ownBlock])) (by simp))
      clear hown hgrow hat
      go_roundw
      case rel => exact ⟨1, by omega, rfl, Lib.hid (fun h => absurd h (by omega)), HO5, HC5⟩
      case measure => simp [intOf]
    · obtain ⟨A, ca, rfl, hin, -⟩ := HO.out.ints
      have HIN := Lib.hid (show Ints wr .i64 A 1 [t] from hin)
      clear hin
      go_wp2_with (first | (go_at_call 43; (with_reducible refine (first_one A ca t t0 t1 _ HIN.out).mono ?_); rintro e w' ⟨rfl, rfl⟩))
      go_ret2
      exact ⟨rfl, HC.out⟩
theorem ran_one {p : Ho → Bool} {L : Int} {x : Ho} {hs' : List Ho} (h : Ran p L [x] hs') : hs' = [if p x = true then x.run L else x] := by
  obtain ⟨h1, h2⟩ := h
  have h3 := h2 0 x rfl
  match hs', h1 with
  | [y], _ =>
    have : y = if p x = true then x.run L else x := by simpa using h3
    rw [this]
theorem pgood0 : PGood 1 10 3 1 2 := by unfold PGood; omega
set_option maxHeartbeats 4000000 in
set_option maxRecDepth 100000 in
theorem speaks19_any (w : World) : Calls Try.prog 27 #[] w fun e w' => e = .returned (.bool true) ∧ Hid (Chg [] w w') := by
  have at0 : ∀ x : Ho, (0 ≤ x.til ∧ x.til ≤ 4611686018427387904) → AtOk [x] := fun x h y hy => by
    obtain rfl : y = x := by simpa using hy
    exact h
  go_enter Try.func27, Try.ntmps27
  go_wp2_with fail
  refine (pnew_ok 1 10 3 1 2 _ pgood0).mono ?_
  rintro e w1 ⟨b, g, rfl, hb, hgg, hst, hc⟩
  have HS := Lib.hid (show Hst 83 85 w1 b g 10 3 1 2 0 [fresh] from hst)
  have HC := Lib.hid hc
  have HF := Lib.hid (And.intro hb hgg)
  clear hst hc hb hgg
  go_wp2_with fail
  refine (due_any b g 10 3 1 2 0 0 [fresh] _ HS.out (by decide) (by omega) (at0 _ (by decide)) (by omega) (by omega) (by omega)).mono ?_
  rintro e w2 ⟨h2, ⟨v2, rfl, o2, -⟩, b2, r2⟩
  have E2 : h2 = [⟨true, false, 0, 0, 0⟩] := (ran_one r2).trans rfl
  subst E2
  have l2 : idxI (hit false 10 3 0) [fresh] 0 = [0] := rfl
  rw [l2] at o2
  obtain ⟨A2, c2, rfl⟩ := o2.form
  have B2 := Lib.hid b2
  clear o2 b2 r2 l2
  go_wp2_with fail
  refine (late_any b g 10 3 1 2 0 3 _ _ B2.out.1 (by decide) (by omega) (at0 _ (by decide)) (by omega) (by omega) (by omega)).mono ?_
  rintro e w3 ⟨⟨v3, rfl, o3, -⟩, b3⟩
  have l3 : idxI (hit true 10 3 3) [⟨true, false, 0, 0, 0⟩] 0 = [0] := rfl
  rw [l3] at o3
  obtain ⟨A3, c3, rfl⟩ := o3.form
  have B3 := Lib.hid b3
  clear o3 b3 l3
  go_wp2_with fail
  refine (answer_any b g 10 3 1 2 3 3 false _ _ B3.out.1 (by decide) (by omega) (by omega) (by omega) (by omega) 0 ⟨true, false, 0, 0, 0⟩ ⟨false, false, 13, 0, 1⟩ 0 rfl rfl (by decide) (by decide) (by decide) (by decide) rfl).mono ?_
  rintro e w4 ⟨rfl, B4⟩
  go_wp2_with fail
  refine (next_one b g 10 3 1 2 3 ⟨false, false, 13, 0, 1⟩ _ B4.out.1 (by omega) (by omega) (by decide) (by decide) 13 rfl (by omega) (by omega)).mono ?_
  rintro e w5 ⟨rfl, H5⟩
  go_wp2_with fail
  refine (due_any b g 10 3 1 2 3 13 [⟨false, false, 13, 0, 1⟩] _ (B4.out.1.frame H5.out (by simp) (by simp)) (by decide) (by omega) (at0 _ (by decide)) (by omega) (by omega) (by omega)).mono ?_
  rintro e w6 ⟨h6, ⟨v6, rfl, o6, -⟩, b6, r6⟩
  have E6 : h6 = [⟨true, false, 13, 0, 1⟩] := (ran_one r6).trans rfl
  subst E6
  have l6 : idxI (hit false 10 3 13) [⟨false, false, 13, 0, 1⟩] 0 = [0] := rfl
  rw [l6] at o6
  obtain ⟨A6, c6, rfl⟩ := o6.form
  have B6 := Lib.hid b6
  clear o6 b6 r6 l6
  go_wp2_with fail
  refine (answer_any b g 10 3 1 2 13 14 false _ _ B6.out.1 (by decide) (by omega) (by omega) (by omega) (by omega) 0 ⟨true, false, 13, 0, 1⟩ ⟨false, true, 24, 0, 2⟩ 2 rfl rfl (by decide) (by decide) (by decide) (by decide) rfl).mono ?_
  rintro e w7 ⟨rfl, B7⟩
  have HCA := Lib.hid (show Chg [] w w7 from by
    have hn : ∀ i, i ∈ [b, g] → i < w.heap.size → i ∈ ([] : List Nat) := by
      intro i hi hlt
      have := HF.out
      simp at hi
      omega
    exact (((((HC.out.trans B2.out.2 hn).trans B3.out.2 hn).trans B4.out.2 hn).trans H5.out (by simp)).trans B6.out.2 hn).trans B7.out.2 hn)
  go_wp2_with fail
  refine (healthy_any b g 10 3 1 2 14 [⟨false, true, 24, 0, 2⟩] _ B7.out.1 0 ⟨false, true, 24, 0, 2⟩ rfl).mono ?_
  rintro e w8 ⟨rfl, rfl⟩
  go_wp2_with fail
  go_ret
  exact ⟨rfl, HCA.out⟩
end Go.Proofs.Yteaepadamhmknaa
