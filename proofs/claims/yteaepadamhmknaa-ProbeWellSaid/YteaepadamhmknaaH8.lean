/- An attempt's end is told: Result, the program's side. -/
import Derived.Test.YteaepadamhmknaaH6
namespace Go.Proofs.Yteaepadamhmknaa
open Go.RowKit
set_option linter.unusedVariables false

theorem nout_set (hs : List Ho) (i : Nat) (x y : Ho) (hx : hs[i]? = some x) (h : y.out = x.out) : nout (hs.set i y) = nout hs := by
  induction hs generalizing i with
  | nil => simp at hx
  | cons z hs ih =>
    cases i with
    | zero =>
      obtain rfl : z = x := by simpa using hx
      simp only [nout, List.set_cons_zero, List.filter_cons, h]
      split <;> simp
    | succ i =>
      have := ih i (by simpa using hx)
      simp only [nout, List.set_cons_succ, List.filter_cons] at this ⊢
      split <;> simp [this]
/-- What Result makes of a host x of hs, and whether it is ejected. -/
def res (fails base long share L : Int) (hs : List Ho) (x : Ho) (ok : Bool) : Ho × Bool :=
  if x.out = true then (x, false) else if ok = true then (⟨x.sick, false, x.til, 0, x.times⟩, false)
  else if fails = 0 ∨ x.row + 1 < fails ∨ share * hs.length < 100 * (nout hs + 1) then (⟨x.sick, false, x.til, x.row + 1, x.times⟩, false)
  else (⟨x.sick, true, tlate L (min long (base * (x.times + 1))), 0, x.times + 1⟩, true)
theorem result_bad (p : Option Addr) (now i : Int) (ok : Bool) (h : now < 0 ∨ 4611686018427387904 < now) (w : World) : Calls Try.prog 14 #[.pointer p, .int .i64 now, .int .i64 i, .bool ok] w fun e w' => e = .returned (.tuple #[.bool false, .int .i64 1]) ∧ w = w' := by
  have HB := Lib.hid h
  clear h
  go_enter Try.func14, Try.ntmps14
  go_wp2_with (first | (go_at_call 33; (with_reducible refine (at_bad p now i HB.out _).mono ?_); rintro e w' ⟨rfl, rfl⟩))
  go_ret2
  exact ⟨rfl, rfl⟩
theorem result_nil (now i : Int) (ok : Bool) (n0 : 0 ≤ now) (n1 : now ≤ 4611686018427387904) (w : World) : Calls Try.prog 14 #[.pointer none, .int .i64 now, .int .i64 i, .bool ok] w fun e w' => e = .returned (.tuple #[.bool false, .int .i64 6]) ∧ w = w' := by
  go_enter Try.func14, Try.ntmps14
  go_wp2_with (first | (go_at_call 33; (with_reducible refine (at_nil now i n0 n1 _).mono ?_); rintro e w' ⟨rfl, rfl⟩))
  go_ret2
  exact ⟨rfl, rfl⟩
theorem result_none (b g : Nat) (fails base long share last now i : Int) (ok : Bool) (hs : List Ho) (w : World) (h : Hst 64 69 w b g fails base long share last hs) (n0 : 0 ≤ now) (n1 : now ≤ 4611686018427387904) (hi : i < 0 ∨ (hs.length : Int) ≤ i) : Calls Try.prog 14 #[.pointer (some ⟨b, 0, none⟩), .int .i64 now, .int .i64 i, .bool ok] w fun e w' => e = .returned (.tuple #[.bool false, .int .i64 6]) ∧ w = w' := by
  have HH := Lib.hid h
  have HI := Lib.hid hi
  clear h hi
  go_enter Try.func14, Try.ntmps14
  go_wp2_with (first | (go_at_call 33; (with_reducible refine (at_none b g fails base long share last now i hs _ HH.out n0 n1 HI.out).mono ?_); rintro e w' ⟨rfl, rfl⟩))
  go_ret2
  exact ⟨rfl, rfl⟩
theorem Hst.again {T TH : Nat} {w : World} {b g : Nat} {fails base long share last : Int} {hs : List Ho} {x : Ho} {k : Nat} (h : Hst T TH w b g fails base long share last (hs.set k x)) (hk : k < hs.length) (j : Nat) (v : Value) (y : Ho) (hj : j < 5) (hv : x.cells.set j v = y.cells) :
    Hst T TH (w.setCell ⟨g, k * 5 + j, none⟩ v) b g fails base long share last (hs.set k y) := by
  have := h.put (k := k) (x := x) (by rw [List.getElem?_set_self hk]) j v y hj hv
  rwa [List.set_set] at this
set_option maxHeartbeats 4000000 in
set_option maxRecDepth 100000 in
theorem result_any (b g : Nat) (fails base long share last now L : Int) (ok : Bool) (hs hs' : List Ho) (E : hs' = hs.map (Ho.rst L)) (w : World) (h : Hst 64 69 w b g fails base long share last hs) (hg : Good hs.length fails base long share) (n0 : 0 ≤ now) (n1 : now ≤ 4611686018427387904) (hL : (L = now ∧ last < now) ∨ (L = last ∧ now ≤ last)) (hl0 : 0 ≤ L) (hl1 : L ≤ 4611686018427387904) (i : Nat) (x y : Ho) (z : Bool) (hx : hs'[i]? = some x)
    (r0 : 0 ≤ x.row) (r1 : x.row ≤ 6000000000000) (t0 : 0 ≤ x.times) (t1 : x.times ≤ 6000000000000) (hy : res fails base long share L hs' x ok = (y, z)) :
    Calls Try.prog 14 #[.pointer (some ⟨b, 0, none⟩), .int .i64 now, .int .i64 i, .bool ok] w fun e w' => e = .returned (.tuple #[.bool z, .int .i64 0]) ∧ Hid (Brought 64 69 b g fails base long share L (hs'.set i y) w w') := by
  obtain ⟨g1, g2, g3, g4, g5, g6, g7, g8, g9, ga⟩ := hg
  have hll : hs'.length = hs.length := by rw [E]; simp
  have HH := Lib.hid h
  have HL := Lib.hid hL
  have HX := Lib.hid hx
  have HI := Lib.hid (show i < hs.length by rw [← hll]; exact (List.getElem?_eq_some_iff.1 hx).1)
  have hl2 : hs.length ≤ 16 := by omega
  replace E := Lib.hid E
  clear h hL hx
  go_enter Try.func14, Try.ntmps14
  go_wp2_with fail
  refine (at_any b g fails base long share last now L hs _ HH.out hl2 n0 n1 HL.out i HI.out).mono ?_
  rintro e w1 ⟨rfl, HB⟩
  rw [← E.out] at HB
  obtain ⟨d0, d1, d2, d3, d4⟩ := HB.out.1.host HX.out
  obtain ⟨sick, out, til, row, times⟩ := x
  dsimp only at d0 d1 d2 d3 d4 r0 r1 t0 t1
  unfold res at hy
  dsimp only at hy
  cases out
  · rw [if_neg (by decide)] at hy
    cases ok
    · rw [if_neg (by decide)] at hy
      have HY := Lib.hid hy
      clear hy
      have HP := Lib.hid (HB.out.1.put HX.out 3 (.int .i64 (row + 1)) ⟨sick, false, til, row + 1, times⟩ (by omega) rfl)
      have HPC := Lib.hid (HB.out.2.setCell (p := ⟨g, i * 5 + 3, none⟩) (by simp) (.int .i64 (row + 1)))
      have f3 := HB.out.1.mayset (i * 5 + 3)
      go_upto_region 8 with fail
      clear d0 d1 d2 d3 d4 f3
      have hset : (hs'.set i ⟨sick, false, til, row + 1, times⟩)[i]? = some (⟨sick, false, til, row + 1, times⟩ : Ho) := by rw [List.getElem?_set_self (by rw [hll]; exact HI.out)]
      have hno : nout (hs'.set i ⟨sick, false, til, row + 1, times⟩) = nout hs' := nout_set hs' i _ _ HX.out rfl
      have hln : (hs'.set i ⟨sick, false, til, row + 1, times⟩).length = hs.length := by rw [List.length_set, hll]
      have hnl := nout_le hs'
      obtain ⟨hs2, E2⟩ : ∃ q, q = hs'.set i ⟨sick, false, til, row + 1, times⟩ := ⟨_, rfl⟩
      rw [← E2] at HP hset hno hln
      replace E2 := Lib.hid E2
      generalize w1.setCell ⟨g, i * 5 + 3, none⟩ (.int .i64 (row + 1)) = w2 at *
      have c0 := HP.out.num.cell 0 _ rfl
      have c3 := HP.out.num.cell 3 _ rfl
      have c5 := HP.out.num.cell 5 _ rfl
      rw [hln] at c5
      rw [hll] at hnl HY
      obtain ⟨d0, d1, d2, d3, d4⟩ := HP.out.host hset
      dsimp only at d0 d1 d2 d3 d4
      replace hset := Lib.hid hset
      replace hno := Lib.hid hno
      have hwr : IntKind.i64.wrap (row + 1) = row + 1 := IntWalk.i64_in _ (by omega)
      by_cases k1 : fails = 0
      · have hy := HY.out
        rw [if_pos (.inl k1)] at hy
        injection hy with e1 e2
        subst e1 e2 k1
        go_wp2_with fail
        go_quiet (fail)
        go_wp2_with fail
        go_ret2
        exact ⟨rfl, by rw [← E2.out]; exact HP.out.frame ((Chg.refl [] _).drewN _) (by simp) (by simp), HPC.out.drewN _⟩
      have k1' : (fails == 0) = false := beq_eq_false_iff_ne.2 k1
      by_cases k2 : row + 1 < fails
      · have hy := HY.out
        rw [if_pos (.inr (.inl k2))] at hy
        injection hy with e1 e2
        subst e1 e2
        go_wp2_with fail
        go_quiet (fail)
        go_wp2_with fail
        go_ret2
        exact ⟨rfl, by rw [← E2.out]; exact HP.out.frame ((Chg.refl [] _).drewN _) (by simp) (by simp), HPC.out.drewN _⟩
      have k2' : decide (row + 1 < fails) = false := decide_eq_false k2
      have k1'' : decide (fails = 0) = false := decide_eq_false k1
      obtain ⟨no, hno2⟩ : ∃ q : Nat, q = nout hs' := ⟨_, rfl⟩
      rw [← hno2] at hno hnl HY
      clear hno2
      have hnm : share * (hs.length : Int) ≤ 100 * 16 := Int.mul_le_mul ga g2 (by omega) (by omega)
      have hnz : 0 ≤ share * (hs.length : Int) := Int.mul_nonneg g9 (by omega)
      have hw1 : IntKind.i64.wrap ((no : Int) + 1) = (no : Int) + 1 := IntWalk.i64_in _ (by omega)
      have hw2 : IntKind.i64.wrap (100 * ((no : Int) + 1)) = 100 * ((no : Int) + 1) := IntWalk.i64_in _ (by omega)
      have hw3 : IntKind.i64.wrap (share * (hs.length : Int)) = share * (hs.length : Int) := IntWalk.i64_in _ (by omega)
      go_wp2_with fail
      go_region_held3 (fun w' => w'.cell? ⟨b, 0, none⟩ = some (.int .i64 fails) ∧ w'.cell? ⟨g, i * 5 + 3, none⟩ = some (.int .i64 (row + 1)) ∧ w'.cell? ⟨b, 3, none⟩ = some (.int .i64 share) ∧ w'.cell? ⟨b, 5, none⟩ = some (.slice (some ⟨g, 0, none⟩) hs.length hs.length))
        (exact ⟨c0, d3, c3, c5⟩)
        (first | (go_at_call 17; (with_reducible refine (ejected_any b g fails base long share L _ _ (HP.out.frame (F := []) (by first | exact Chg.refl [] _ | exact (Chg.refl [] _).drew | exact (Chg.refl [] _).drewN _) (by simp) (by simp)) (by omega)).mono ?_); rintro e w3 ⟨rfl, hc⟩; have hc2 := Chg.trans (F := []) (a := w2) (by first | exact Chg.refl [] _ | exact (Chg.refl [] _).drew | exact (Chg.refl [] _).drewN _) hc.out (by simp); have hq := HP.out.frame hc2 (by simp) (by simp); have c0 := hq.num.cell 0 _ rfl; have c3 := hq.num.cell 3 _ rfl; have c5 := hq.num.cell 5 _ rfl; rw [hln] at c5; have d3 := (hq.host hset.out).2.2.2.1; dsimp only at d3; replace hq := Lib.hid hq; replace hc2 := Lib.hid hc2; clear hc; rw [hno.out]))
      by_cases k3 : share * (hs.length : Int) < 100 * ((no : Int) + 1)
      · have hy := HY.out
        rw [if_pos (.inr (.inr k3))] at hy
        injection hy with e1 e2
        subst e1 e2
        go_wp2_with fail
        go_ret2
        exact ⟨rfl, by rw [← E2.out]; exact hq.out, HPC.out.trans hc2.out (by simp)⟩
      · have hy := HY.out
        rw [if_neg (by omega)] at hy
        injection hy with e1 e2
        subst e1 e2
        have hi' : i < hs'.length := by rw [hll]; exact HI.out
        have f1 := hq.out.mayset (i * 5 + 1)
        have f3 := hq.out.mayset (i * 5 + 3)
        have f4 := hq.out.mayset (i * 5 + 4)
        have f2 := hq.out.mayset (i * 5 + 2)
        obtain ⟨d0, d1, d2, d3, d4⟩ := hq.out.host hset.out
        dsimp only at d0 d1 d2 d3 d4
        have hv := hq.out
        rw [E2.out] at hv
        have hv1 := ((hv.again hi' 4 (.int .i64 (times + 1)) ⟨sick, false, til, row + 1, times + 1⟩ (by omega) rfl).again hi' 1 (.bool true) ⟨sick, true, til, row + 1, times + 1⟩ (by omega) rfl).again hi' 3 (.int .i64 0) ⟨sick, true, til, 0, times + 1⟩ (by omega) rfl
        have HV := Lib.hid hv1
        have HVC := Lib.hid ((((HPC.out.trans hc2.out (by simp)).setCell (p := ⟨g, i * 5 + 4, none⟩) (by simp) (.int .i64 (times + 1))).setCell (p := ⟨g, i * 5 + 1, none⟩) (by simp) (.bool true)).setCell (p := ⟨g, i * 5 + 3, none⟩) (by simp) (.int .i64 0))
        clear hv hv1 hc2
        go_upto_region 12 with fail
        generalize ((w3.setCell ⟨g, i * 5 + 4, none⟩ (.int .i64 (times + 1))).setCell ⟨g, i * 5 + 1, none⟩ (.bool true)).setCell ⟨g, i * 5 + 3, none⟩ (.int .i64 0) = w5 at *
        clear hq f1 f2 f3 f4 d0 d1 d2 d3 d4 c0 c3 c5
        have c1 := HV.out.num.cell 1 _ rfl
        have c2 := HV.out.num.cell 2 _ rfl
        have c4 := HV.out.num.cell 4 _ rfl
        obtain ⟨d0, d1, d2, d3, d4⟩ := HV.out.host (k := i) (by rw [List.getElem?_set_self hi'])
        dsimp only at d0 d1 d2 d3 d4
        have hm1 : base * (times + 1) ≤ 1000000 * 6000000000001 := Int.mul_le_mul g6 (by omega) (by omega) (by omega)
        have hm0 : 0 ≤ base * (times + 1) := Int.mul_nonneg (by omega) (by omega)
        have hw4 : IntKind.i64.wrap (base * (times + 1)) = base * (times + 1) := IntWalk.i64_in _ (by omega)
        have hf2 := HV.out.mayset (i * 5 + 2)
        have hv2 : Hid (∀ (v : Int) (W : World), W.heap = (w5.setCell ⟨g, i * 5 + 2, none⟩ (.int .i64 v)).heap → Hst 64 69 W b g fails base long share L (hs'.set i ⟨sick, true, v, 0, times + 1⟩)) := Lib.hid (by
          intro v W hW
          have hh := HV.out.again hi' 2 (.int .i64 v) ⟨sick, true, v, 0, times + 1⟩ (by omega) rfl
          exact ⟨hh.num.kept (by rw [hW]), Blk.kept hh.recs (by rw [hW]), hh.ne⟩)
        have hv3 : Hid (∀ (v : Int) (W : World), W.heap = (w5.setCell ⟨g, i * 5 + 2, none⟩ (.int .i64 v)).heap → W.cell? ⟨b, 1, none⟩ = some (.int .i64 base) ∧ W.cell? ⟨b, 2, none⟩ = some (.int .i64 long) ∧ W.cell? ⟨b, 4, none⟩ = some (.int .i64 L) ∧ W.cell? ⟨g, i * 5 + 4, none⟩ = some (.int .i64 (times + 1)) ∧ W.frozen? ⟨g, i * 5 + 2, none⟩ = false ∧ ∃ v, W.cell? ⟨g, i * 5 + 2, none⟩ = some (.int .i64 v)) := Lib.hid (by
          intro v W hW
          have hh := hv2.out v W hW
          have hx := hh.host (k := i) (x := ⟨sick, true, v, 0, times + 1⟩) (by rw [List.getElem?_set_self hi'])
          exact ⟨hh.num.cell 1 _ rfl, hh.num.cell 2 _ rfl, hh.num.cell 4 _ rfl, hx.2.2.2.2, hh.mayset _, v, hx.2.2.1⟩)
        have hd : (base * (times + 1) < long ∧ min long (base * (times + 1)) = base * (times + 1)) ∨ (long ≤ base * (times + 1) ∧ min long (base * (times + 1)) = long) := by omega
        rcases hd with ⟨km, hd⟩ | ⟨km, hd⟩
        all_goals
          have HD := Lib.hid hd
          clear hd HY
          go_region_held3 (fun w' => w'.cell? ⟨b, 1, none⟩ = some (.int .i64 base) ∧ w'.cell? ⟨b, 2, none⟩ = some (.int .i64 long) ∧ w'.cell? ⟨b, 4, none⟩ = some (.int .i64 L) ∧ w'.cell? ⟨g, i * 5 + 4, none⟩ = some (.int .i64 (times + 1)) ∧ w'.frozen? ⟨g, i * 5 + 2, none⟩ = false ∧ ∃ v, w'.cell? ⟨g, i * 5 + 2, none⟩ = some (.int .i64 v))
            (first | exact ⟨c1, c2, c4, d4, hf2, til, d2⟩ | exact hv3.out _ _ rfl)
            (first | (go_at_call 34; (with_reducible refine (add_ok L _ hl0 hl1 (by omega) (by omega) _).mono ?_); rintro e w' ⟨rfl, rfl⟩))
          go_wp2_with fail
          go_ret2
          refine ⟨rfl, ?_⟩
          rw [HD.out]
          exact ⟨hv2.out _ _ rfl, by first | exact HVC.out.setCell (p := ⟨g, i * 5 + 2, none⟩) (by simp) _ | exact (HVC.out.setCell (p := ⟨g, i * 5 + 2, none⟩) (by simp) _).drew | exact HVC.out.drew.setCell (p := ⟨g, i * 5 + 2, none⟩) (by simp) _⟩
    · rw [if_pos rfl] at hy
      injection hy with e1 e2
      subst e1 e2
      have HP := Lib.hid (HB.out.1.put HX.out 3 (.int .i64 0) ⟨sick, false, til, 0, times⟩ (by omega) rfl)
      have f3 := HB.out.1.mayset (i * 5 + 3)
      go_wp2_with fail
      go_ret2
      exact ⟨rfl, HP.out, HB.out.2.setCell (by simp) _⟩
  · rw [if_pos rfl] at hy
    injection hy with e1 e2
    subst e1 e2
    go_wp2_with fail
    go_ret2
    exact ⟨rfl, by rw [set_same HX.out]; exact HB.out.1, HB.out.2⟩
end Go.Proofs.Yteaepadamhmknaa
