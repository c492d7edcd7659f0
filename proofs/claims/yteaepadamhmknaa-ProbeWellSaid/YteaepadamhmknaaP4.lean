/- Layer 19: Answer. -/
import Derived.Test.YteaepadamhmknaaP3
namespace Go.Proofs.Yteaepadamhmknaa
open Go.RowKit
set_option linter.unusedVariables false

theorem answer_bad (p : Option Addr) (now i : Int) (ok : Bool) (h : now < 0 ∨ 4611686018427387904 < now) (w : World) : Calls Try.prog 29 #[.pointer p, .int .i64 now, .int .i64 i, .bool ok] w fun e w' => e = .returned (.tuple #[.int .i64 0, .int .i64 1]) ∧ w = w' := by
  have HB := Lib.hid h
  clear h
  go_enter Try.func29, Try.ntmps29
  go_wp2_with (first | (go_at_call 40; (with_reducible refine (pbring_bad p now HB.out _).mono ?_); rintro e w' ⟨rfl, rfl⟩))
  go_ret2
  exact ⟨rfl, rfl⟩
theorem answer_nil (now i : Int) (ok : Bool) (n0 : 0 ≤ now) (n1 : now ≤ 4611686018427387904) (w : World) : Calls Try.prog 29 #[.pointer none, .int .i64 now, .int .i64 i, .bool ok] w fun e w' => e = .returned (.tuple #[.int .i64 0, .int .i64 6]) ∧ w = w' := by
  go_enter Try.func29, Try.ntmps29
  go_wp2_with (first | (go_at_call 40; (with_reducible refine (pbring_nil now n0 n1 _).mono ?_); rintro e w' ⟨rfl, rfl⟩))
  go_ret2
  exact ⟨rfl, rfl⟩
/-- What Answer makes of a host whose probe runs, and what it tells. -/
def ans (every up down L : Int) (x : Ho) (ok : Bool) : Ho × Int :=
  if ok = true then (if x.out = true ∧ up ≤ x.row + 1 then (⟨false, false, tlate L every, x.row + 1, 0⟩, 1) else (⟨false, x.out, tlate L every, x.row + 1, 0⟩, 0))
  else if x.out = false ∧ down ≤ x.times + 1 then (⟨false, true, tlate L every, 0, x.times + 1⟩, 2) else (⟨false, x.out, tlate L every, 0, x.times + 1⟩, 0)
set_option maxHeartbeats 8000000 in
set_option maxRecDepth 100000 in
theorem answer_any (b g : Nat) (every timeout up down last now : Int) (ok : Bool) (hs : List Ho) (w : World) (h : Hst 83 85 w b g every timeout up down last hs) (hl : hs.length ≤ 16) (he : 0 ≤ every ∧ every ≤ 1000000) (n0 : 0 ≤ now) (n1 : now ≤ 4611686018427387904) (hL : last ≤ now) (i : Nat) (x y : Ho) (z : Int) (hx : hs[i]? = some x) (hr : x.sick = true)
    (r0 : 0 ≤ x.row) (r1 : x.row ≤ 200000000000000) (t0 : 0 ≤ x.times) (t1 : x.times ≤ 200000000000000) (hy : ans every up down now x ok = (y, z)) :
    Calls Try.prog 29 #[.pointer (some ⟨b, 0, none⟩), .int .i64 now, .int .i64 i, .bool ok] w fun e w' => e = .returned (.tuple #[.int .i64 z, .int .i64 0]) ∧ Hid (Brought 83 85 b g every timeout up down now (hs.set i y) w w') := by
  have HH := Lib.hid h
  have hi' : i < hs.length := (List.getElem?_eq_some_iff.1 hx).1
  have HX := Lib.hid hx
  have hi0 : ¬ (i : Int) < 0 := by omega
  have hi1 : ¬ (hs.length : Int) ≤ (i : Int) := by omega
  have hi2 : (i : Int) < (hs.length : Int) := by omega
  have hl2 : (hs.length : Int) ≤ 16 := by omega
  clear h hx
  go_enter Try.func29, Try.ntmps29
  go_wp2_with fail
  refine (pbring_any b g every timeout up down last now hs _ HH.out n0 n1 hL).mono ?_
  rintro e w1 ⟨rfl, HB⟩
  have c5 := HB.out.1.num.cell 5 _ rfl
  obtain ⟨d0, d1, d2, d3, d4⟩ := HB.out.1.host HX.out
  have f0 := HB.out.1.mayset (i * 5)
  obtain ⟨sick, out, til, row, times⟩ := x
  dsimp only at d0 d1 d2 d3 d4 r0 r1 t0 t1 hr
  subst hr
  have hp := HB.out.1.put HX.out 0 (.bool false) ⟨false, out, til, row, times⟩ (by omega) rfl
  rw [Nat.add_zero] at hp
  have HP := Lib.hid hp
  have HPC := Lib.hid (HB.out.2.setCell (p := ⟨g, i * 5, none⟩) (by simp) (.bool false))
  clear hp
  go_upto_region 10 with fail
  clear c5 d0 d1 d2 d3 d4 f0 HB
  generalize w1.setCell ⟨g, i * 5, none⟩ (.bool false) = w2 at *
  have c0 := HP.out.num.cell 0 _ rfl
  have c4 := HP.out.num.cell 4 _ rfl
  have f2 := HP.out.mayset (i * 5 + 2)
  have d2 := (HP.out.host (k := i) (by rw [List.getElem?_set_self hi'])).2.2.1
  have hv2 : Hid (∀ (v : Int) (W : World), W.heap = (w2.setCell ⟨g, i * 5 + 2, none⟩ (.int .i64 v)).heap → Hst 83 85 W b g every timeout up down now (hs.set i ⟨false, out, v, row, times⟩)) := Lib.hid (by
    intro v W hW
    exact (HP.out.again hi' 2 (.int .i64 v) ⟨false, out, v, row, times⟩ (by omega) rfl).heap hW)
  have hv3 : Hid (∀ (v : Int) (W : World), W.heap = (w2.setCell ⟨g, i * 5 + 2, none⟩ (.int .i64 v)).heap → W.cell? ⟨b, 0, none⟩ = some (.int .i64 every) ∧ W.cell? ⟨b, 4, none⟩ = some (.int .i64 now) ∧ W.frozen? ⟨g, i * 5 + 2, none⟩ = false ∧ ∃ v, W.cell? ⟨g, i * 5 + 2, none⟩ = some (.int .i64 v)) := Lib.hid (by
    intro v W hW
    have hh := hv2.out v W hW
    exact ⟨hh.num.cell 0 _ rfl, hh.num.cell 4 _ rfl, hh.mayset _, _, (hh.host (k := i) (by rw [List.getElem?_set_self hi'])).2.2.1⟩)
  obtain ⟨e0, e1⟩ := he
  go_region_held3 (fun w' => w'.cell? ⟨b, 0, none⟩ = some (.int .i64 every) ∧ w'.cell? ⟨b, 4, none⟩ = some (.int .i64 now) ∧ w'.frozen? ⟨g, i * 5 + 2, none⟩ = false ∧ ∃ v, w'.cell? ⟨g, i * 5 + 2, none⟩ = some (.int .i64 v))
    (first | exact ⟨c0, c4, f2, _, d2⟩ | exact hv3.out _ _ rfl)
    (first | (go_at_call 34; (with_reducible refine (add_ok now _ n0 n1 (by omega) (by omega) _).mono ?_); rintro e w' ⟨rfl, rfl⟩))
  have HV := Lib.hid (hv2.out (tlate now every) ((w2.setCell ⟨g, i * 5 + 2, none⟩ (.int .i64 (tlate now every))).drew) rfl)
  have HVC := Lib.hid ((HPC.out.setCell (p := ⟨g, i * 5 + 2, none⟩) (by simp) (.int .i64 (tlate now every))).drew)
  clear hv2 hv3 c0 c4 f2 d2 HP HPC
  generalize (w2.setCell ⟨g, i * 5 + 2, none⟩ (.int .i64 (tlate now every))).drew = w3 at *
  unfold ans at hy
  generalize tlate now every = tn at *
  have hr1 : IntKind.i64.wrap (row + 1) = row + 1 := IntWalk.i64_in _ (by omega)
  have hr2 : IntKind.i64.wrap (times + 1) = times + 1 := IntWalk.i64_in _ (by omega)
  have HY := Lib.hid hy
  clear hy
  have c2 := HV.out.num.cell 2 _ rfl
  have c3 := HV.out.num.cell 3 _ rfl
  have f1 := HV.out.mayset (i * 5 + 1)
  have f3 := HV.out.mayset (i * 5 + 3)
  have f4 := HV.out.mayset (i * 5 + 4)
  obtain ⟨d0, d1, d2, d3, d4⟩ := HV.out.host (k := i) (by rw [List.getElem?_set_self hi'])
  dsimp only at d0 d1 d2 d3 d4
  cases ok
  · have HV2 := Lib.hid ((HV.out.again hi' 3 (.int .i64 0) ⟨false, out, tn, 0, times⟩ (by omega) rfl).again hi' 4 (.int .i64 (times + 1)) ⟨false, out, tn, 0, times + 1⟩ (by omega) rfl)
    have HVC2 := Lib.hid ((HVC.out.setCell (p := ⟨g, i * 5 + 3, none⟩) (by simp) (.int .i64 0)).setCell (p := ⟨g, i * 5 + 4, none⟩) (by simp) (.int .i64 (times + 1)))
    go_upto_region 18 with fail
    clear c2 c3 f1 f3 f4 d0 d1 d2 d3 d4 HV HVC
    generalize (w3.setCell ⟨g, i * 5 + 3, none⟩ (.int .i64 0)).setCell ⟨g, i * 5 + 4, none⟩ (.int .i64 (times + 1)) = w4 at *
    have c3 := HV2.out.num.cell 3 _ rfl
    obtain ⟨d0, d1, d2, d3, d4⟩ := HV2.out.host (k := i) (by rw [List.getElem?_set_self hi'])
    dsimp only at d0 d1 d2 d3 d4
    have hy := HY.out
    rw [if_neg (by decide)] at hy
    dsimp only at hy
    cases out
    · by_cases hu : down ≤ times + 1
      · rw [if_pos ⟨rfl, hu⟩] at hy
        injection hy with e1 e2
        subst e1 e2
        clear HY
        go_quiet (fail)
        have HV4 := Lib.hid (HV2.out.frame ((Chg.refl [] w4).drewN nq) (by simp) (by simp))
        have HVC4 := Lib.hid (HVC2.out.drewN nq)
        clear c3 d0 d1 d2 d3 d4
        generalize w4.drewN nq = w5 at *
        have HV3 := Lib.hid (HV4.out.again hi' 1 (.bool true) ⟨false, true, tn, 0, times + 1⟩ (by omega) rfl)
        have f1 := HV4.out.mayset (i * 5 + 1)
        obtain ⟨d0, d1, d2, d3, d4⟩ := HV4.out.host (k := i) (by rw [List.getElem?_set_self hi'])
        dsimp only at d0 d1 d2 d3 d4
        go_wp2_with fail
        go_ret2
        exact ⟨rfl, HV3.out, HVC4.out.setCell (by simp) _⟩
      · have hu' : decide (down ≤ times + 1) = false := decide_eq_false hu
        rw [if_neg (fun h => hu h.2)] at hy
        injection hy with e1 e2
        subst e1 e2
        clear HY
        go_quiet (fail)
        go_wp2_with fail
        go_ret2
        exact ⟨rfl, HV2.out.frame ((Chg.refl [] w4).drewN nq) (by simp) (by simp), HVC2.out.drewN nq⟩
    · rw [if_neg (fun h => Bool.noConfusion h.1)] at hy
      injection hy with e1 e2
      subst e1 e2
      clear HY
      go_quiet (fail)
      go_wp2_with fail
      go_ret2
      exact ⟨rfl, HV2.out.frame ((Chg.refl [] w4).drewN nq) (by simp) (by simp), HVC2.out.drewN nq⟩
  · have HV2 := Lib.hid ((HV.out.again hi' 3 (.int .i64 (row + 1)) ⟨false, out, tn, row + 1, times⟩ (by omega) rfl).again hi' 4 (.int .i64 0) ⟨false, out, tn, row + 1, 0⟩ (by omega) rfl)
    have HVC2 := Lib.hid ((HVC.out.setCell (p := ⟨g, i * 5 + 3, none⟩) (by simp) (.int .i64 (row + 1))).setCell (p := ⟨g, i * 5 + 4, none⟩) (by simp) (.int .i64 0))
    go_upto_region 13 with fail
    clear c2 c3 f1 f3 f4 d0 d1 d2 d3 d4 HV HVC
    generalize (w3.setCell ⟨g, i * 5 + 3, none⟩ (.int .i64 (row + 1))).setCell ⟨g, i * 5 + 4, none⟩ (.int .i64 0) = w4 at *
    have c2 := HV2.out.num.cell 2 _ rfl
    obtain ⟨d0, d1, d2, d3, d4⟩ := HV2.out.host (k := i) (by rw [List.getElem?_set_self hi'])
    dsimp only at d0 d1 d2 d3 d4
    have hy := HY.out
    rw [if_pos rfl] at hy
    dsimp only at hy
    cases out
    · rw [if_neg (fun h => Bool.noConfusion h.1)] at hy
      injection hy with e1 e2
      subst e1 e2
      clear HY
      go_quiet (fail)
      go_wp2_with fail
      go_ret2
      exact ⟨rfl, HV2.out.frame ((Chg.refl [] w4).drewN nq) (by simp) (by simp), HVC2.out.drewN nq⟩
    · by_cases hu : up ≤ row + 1
      · rw [if_pos ⟨rfl, hu⟩] at hy
        injection hy with e1 e2
        subst e1 e2
        clear HY
        go_quiet (fail)
        have HV4 := Lib.hid (HV2.out.frame ((Chg.refl [] w4).drewN nq) (by simp) (by simp))
        have HVC4 := Lib.hid (HVC2.out.drewN nq)
        clear c2 d0 d1 d2 d3 d4
        generalize w4.drewN nq = w5 at *
        have HV3 := Lib.hid (HV4.out.again hi' 1 (.bool false) ⟨false, false, tn, row + 1, 0⟩ (by omega) rfl)
        have f1 := HV4.out.mayset (i * 5 + 1)
        obtain ⟨d0, d1, d2, d3, d4⟩ := HV4.out.host (k := i) (by rw [List.getElem?_set_self hi'])
        dsimp only at d0 d1 d2 d3 d4
        go_wp2_with fail
        go_ret2
        exact ⟨rfl, HV3.out, HVC4.out.setCell (by simp) _⟩
      · have hu' : decide (up ≤ row + 1) = false := decide_eq_false hu
        rw [if_neg (fun h => hu h.2)] at hy
        injection hy with e1 e2
        subst e1 e2
        clear HY
        go_quiet (fail)
        go_wp2_with fail
        go_ret2
        exact ⟨rfl, HV2.out.frame ((Chg.refl [] w4).drewN nq) (by simp) (by simp), HVC2.out.drewN nq⟩
end Go.Proofs.Yteaepadamhmknaa
