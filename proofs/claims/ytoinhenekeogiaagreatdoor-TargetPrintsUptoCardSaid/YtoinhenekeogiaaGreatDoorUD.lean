/- Layer 6: the walk of TargetPrints. -/
import Derived.Test.YtoinhenekeogiaaGreatDoorUC
import Derived.Test.YtoinhenekeogiaaGreatDoorTC
namespace Go.Proofs.YtoinhenekeogiaaGreatDoor
open Go.RowKit Go.ChangeShapes Go.WideShapes
set_option linter.unusedVariables false

set_option maxHeartbeats 8000000 in
set_option maxRecDepth 100000 in
theorem prints_any (f : Int) (h : ByteArray) (p : Int) (pa q : ByteArray) (a : Bool) (w : World) (hE : Hid (Env w)) (hp : p ≤ 9223372036854775807) (hh : h.size ≤ 1048576) (hpa : pa.size ≤ 1048576) (hq : q.size ≤ 1048576) :
    Calls Tryz.prog 3 #[.agg (tgt f h p pa q a).toArray] w fun o w' => o = .returned (.bool true) ∧ Hid (Chg [] w w') := by
  obtain ⟨z, hz⟩ : ∃ z : Bool, takes (textM f) (textS f h p pa q a) (tgt f h p pa q a) ↔ z = true := by
    by_cases hc : takes (textM f) (textS f h p pa q a) (tgt f h p pa q a)
    · exact ⟨true, by simp [hc]⟩
    · exact ⟨false, by simp [hc]⟩
  have HP4 := Lib.hid (fun w hE => print_any f h p pa q a w hE hp hh hpa hq z hz)
  have HP5 := Lib.hid (fun w hE => rprint_any f h p pa q a w hE hp hh hpa hq z hz)
  have HB0 := Lib.hid (Blk.new w (tgt f h p pa q a) 23)
  have HC0 := Lib.hid ((Chg.refl [] w).alloc (.cells (tgt f h p pa q a).toArray 23))
  have HZ := Lib.hid hz
  clear hz
  obtain ⟨A, hA⟩ : ∃ A, okS z (textS f h p pa q a) = A := ⟨_, rfl⟩
  obtain ⟨E, hEE⟩ : ∃ E, okE z = E := ⟨_, rfl⟩
  rw [hA, hEE] at HP4 HP5
  have HA := Lib.hid hA
  have HEE := Lib.hid hEE
  clear hA hEE
  change Calls Tryz.prog 3 #[.agg #[.int .i64 f, .string h, .int .i64 p, .string pa, .string q, .bool a]] w _
  go_enter Tryz.func3, Tryz.ntmps3
  go_wp2_with fail
  have HB1 := HB0.out
  have HC1 := HC0.out
  change Blk (w.alloc (.cells #[.int .i64 f, .string h, .int .i64 p, .string pa, .string q, .bool a] 23)) _ _ _ at HB1
  change Chg [] w (w.alloc (.cells #[.int .i64 f, .string h, .int .i64 p, .string pa, .string q, .bool a] 23)) at HC1
  generalize w.alloc (.cells #[.int .i64 f, .string h, .int .i64 p, .string pa, .string q, .bool a] 23) = W1 at HB1 HC1 ⊢
  generalize w.heap.size = b at HB1 ⊢
  refine (HP4.out _ (Lib.hid (hE.out.chg HC1))).mono ?_
  rintro o W2 ⟨rfl, H2⟩
  have HB2 := HB1.chg H2.out (by simp)
  have HC2 := HC1.trans H2.out (by simp)
  clear HB1 HC1
  have HB4 := HB2
  have c0 := HB4.cell 0 _ rfl
  have c1 := HB4.cell 1 _ rfl
  have c2 := HB4.cell 2 _ rfl
  have c3 := HB4.cell 3 _ rfl
  have c4 := HB4.cell 4 _ rfl
  have c5 := HB4.cell 5 _ rfl
  clear HB4
  go_wp2_with fail
  clear c0 c1 c2 c3 c4 c5
  refine (HP5.out _ (Lib.hid (hE.out.chg HC2))).mono ?_
  rintro o W3 ⟨rfl, H3⟩
  have HB3 := Lib.hid (HB2.chg H3.out (by simp))
  have HC3 := Lib.hid (HC2.trans H3.out (by simp))
  clear HB2 HC2
  have HB4 := HB3.out
  have c0 := HB4.cell 0 _ rfl
  have c1 := HB4.cell 1 _ rfl
  have c2 := HB4.cell 2 _ rfl
  have c3 := HB4.cell 3 _ rfl
  have c4 := HB4.cell 4 _ rfl
  have c5 := HB4.cell 5 _ rfl
  clear HB4
  cases z
  · obtain rfl : E = 60 := HEE.out.symm
    go_wp2_with fail
    refine (speaks_any _ (Lib.hid (hE.out.chg HC3.out))).mono ?_
    rintro o W6 ⟨rfl, H6⟩
    go_wp2
    go_ret
    exact ⟨rfl, HC3.out.trans H6.out (by simp)⟩
  · obtain rfl : E = 0 := HEE.out.symm
    have HTK := HZ.out.2 rfl
    obtain ⟨S, hS⟩ : ∃ S, textS f h p pa q a = S := ⟨_, rfl⟩
    obtain rfl : S = A := by rw [← HA.out, ← hS]; rfl
    rw [hS] at HTK
    have HTK := Lib.hid HTK
    clear hS
    by_cases k3 : f = 3
    · have HM := Lib.hid (show textM f = ⟨#[67, 79, 78, 78, 69, 67, 84]⟩ from by unfold textM; rw [if_pos k3])
      have f3b : (f == 3) = true := beq_iff_eq.2 k3
      have f4b : (f == 4) = false := beq_eq_false_iff_ne.2 (by omega)
      have k4 : True := trivial
      clear k3 k4
      go_wp2_with fail
      refine (parse_any (⟨#[67, 79, 78, 78, 69, 67, 84]⟩) S _ (Lib.hid (hE.out.chg HC3.out))).mono ?_
      rintro o W4 ⟨⟨v, hv, rfl⟩, H4⟩
      have hpr := (takes_any (m := (⟨#[67, 79, 78, 78, 69, 67, 84]⟩)) hv (tgt f h p pa q a)).2 (by have := HTK.out; rw [HM.out] at this; exact this)
      rw [hpr]
      clear hpr hv c0 c1 c2 c3 c4 c5
      have HB4 : Blk (W4.alloc (.cells #[.int .i64 f, .string h, .int .i64 p, .string pa, .string q, .bool a] 23)) b (tgt f h p pa q a) 23 := (HB3.out.chg H4.out (by simp)).alloc _
      have HC4 := Lib.hid ((HC3.out.trans H4.out (by simp)).alloc (.cells #[.int .i64 f, .string h, .int .i64 p, .string pa, .string q, .bool a] 23))
      unfold tgt
      have c0 := HB4.cell 0 _ rfl
      have c1 := HB4.cell 1 _ rfl
      have c2 := HB4.cell 2 _ rfl
      have c3 := HB4.cell 3 _ rfl
      have c4 := HB4.cell 4 _ rfl
      have c5 := HB4.cell 5 _ rfl
      clear HB4
      have hn := run_eql23 f f p p h h pa pa q q a a
      rw [show eqT f f p p h h pa pa q q a a = true from (eqT_iff ..).2 rfl] at hn
      have hg := guard23
      go_wp2_with fail
      generalize W4.alloc _ = W5 at HC4 ⊢
      refine (speaks_any _ (Lib.hid (hE.out.chg HC4.out))).mono ?_
      rintro o W6 ⟨rfl, H6⟩
      go_wp2
      go_ret
      exact ⟨rfl, HC4.out.trans H6.out (by simp)⟩
    · have f3b : (f == 3) = false := beq_eq_false_iff_ne.2 k3
      by_cases k4 : f = 4
      · have HM := Lib.hid (show textM f = ⟨#[79, 80, 84, 73, 79, 78, 83]⟩ from by unfold textM; rw [if_neg k3, if_pos k4])
        have f4b : (f == 4) = true := beq_iff_eq.2 k4
        clear k3 k4
        go_wp2_with fail
        refine (parse_any (⟨#[79, 80, 84, 73, 79, 78, 83]⟩) S _ (Lib.hid (hE.out.chg HC3.out))).mono ?_
        rintro o W4 ⟨⟨v, hv, rfl⟩, H4⟩
        have hpr := (takes_any (m := (⟨#[79, 80, 84, 73, 79, 78, 83]⟩)) hv (tgt f h p pa q a)).2 (by have := HTK.out; rw [HM.out] at this; exact this)
        rw [hpr]
        clear hpr hv c0 c1 c2 c3 c4 c5
        have HB4 : Blk (W4.alloc (.cells #[.int .i64 f, .string h, .int .i64 p, .string pa, .string q, .bool a] 23)) b (tgt f h p pa q a) 23 := (HB3.out.chg H4.out (by simp)).alloc _
        have HC4 := Lib.hid ((HC3.out.trans H4.out (by simp)).alloc (.cells #[.int .i64 f, .string h, .int .i64 p, .string pa, .string q, .bool a] 23))
        unfold tgt
        have c0 := HB4.cell 0 _ rfl
        have c1 := HB4.cell 1 _ rfl
        have c2 := HB4.cell 2 _ rfl
        have c3 := HB4.cell 3 _ rfl
        have c4 := HB4.cell 4 _ rfl
        have c5 := HB4.cell 5 _ rfl
        clear HB4
        have hn := run_eql23 f f p p h h pa pa q q a a
        rw [show eqT f f p p h h pa pa q q a a = true from (eqT_iff ..).2 rfl] at hn
        have hg := guard23
        go_wp2_with fail
        generalize W4.alloc _ = W5 at HC4 ⊢
        refine (speaks_any _ (Lib.hid (hE.out.chg HC4.out))).mono ?_
        rintro o W6 ⟨rfl, H6⟩
        go_wp2
        go_ret
        exact ⟨rfl, HC4.out.trans H6.out (by simp)⟩
      · have HM := Lib.hid (show textM f = ⟨#[71, 69, 84]⟩ from by unfold textM; rw [if_neg k3, if_neg k4])
        have f4b : (f == 4) = false := beq_eq_false_iff_ne.2 k4
        clear k3 k4
        go_wp2_with fail
        refine (parse_any (⟨#[71, 69, 84]⟩) S _ (Lib.hid (hE.out.chg HC3.out))).mono ?_
        rintro o W4 ⟨⟨v, hv, rfl⟩, H4⟩
        have hpr := (takes_any (m := (⟨#[71, 69, 84]⟩)) hv (tgt f h p pa q a)).2 (by have := HTK.out; rw [HM.out] at this; exact this)
        rw [hpr]
        clear hpr hv c0 c1 c2 c3 c4 c5
        have HB4 : Blk (W4.alloc (.cells #[.int .i64 f, .string h, .int .i64 p, .string pa, .string q, .bool a] 23)) b (tgt f h p pa q a) 23 := (HB3.out.chg H4.out (by simp)).alloc _
        have HC4 := Lib.hid ((HC3.out.trans H4.out (by simp)).alloc (.cells #[.int .i64 f, .string h, .int .i64 p, .string pa, .string q, .bool a] 23))
        unfold tgt
        have c0 := HB4.cell 0 _ rfl
        have c1 := HB4.cell 1 _ rfl
        have c2 := HB4.cell 2 _ rfl
        have c3 := HB4.cell 3 _ rfl
        have c4 := HB4.cell 4 _ rfl
        have c5 := HB4.cell 5 _ rfl
        clear HB4
        have hn := run_eql23 f f p p h h pa pa q q a a
        rw [show eqT f f p p h h pa pa q q a a = true from (eqT_iff ..).2 rfl] at hn
        have hg := guard23
        go_wp2_with fail
        generalize W4.alloc _ = W5 at HC4 ⊢
        refine (speaks_any _ (Lib.hid (hE.out.chg HC4.out))).mono ?_
        rintro o W6 ⟨rfl, H6⟩
        go_wp2
        go_ret
        exact ⟨rfl, HC4.out.trans H6.out (by simp)⟩
end Go.Proofs.YtoinhenekeogiaaGreatDoor
