/- Layer 13, the reference: in, span, host, place. -/
import Derived.Test.YtjndgkbikhndoaaGreatDoorM5
namespace Go.Proofs.YtjndgkbikhndoaaGreatDoor
open Go.RowKit Go.ChangeShapes Go.WideShapes
set_option linter.unusedVariables false

theorem rin_any (n a b : Int) (w : World) (z : Bool) (hz : inR n a b = z) : Calls Tryz.prog 54 #[.int .i64 n, .int .i64 a, .int .i64 b] w fun e w' => e = .returned (.bool z) ∧ w = w' := by
  by_cases h1 : a ≤ n
  · by_cases h2 : n ≤ b
    · have HR := Lib.hid (show z = true from by rw [← hz]; unfold inR; rw [decide_eq_true h1, decide_eq_true h2]; rfl)
      clear hz
      go_enter Tryz.func54, Tryz.ntmps54
      go_wp2
      go_ret
      exact ⟨by rw [HR.out]; rfl, rfl⟩
    · have HR := Lib.hid (show z = false from by rw [← hz]; unfold inR; rw [decide_eq_false h2, Bool.and_false])
      clear hz
      go_enter Tryz.func54, Tryz.ntmps54
      go_wp2
      go_ret
      exact ⟨by rw [HR.out]; rfl, rfl⟩
  · have HR := Lib.hid (show z = false from by rw [← hz]; unfold inR; rw [decide_eq_false h1]; rfl)
    clear hz
    go_enter Tryz.func54, Tryz.ntmps54
    go_wp2
    go_ret
    exact ⟨by rw [HR.out]; rfl, rfl⟩
theorem rspan_any (n : Int) (w : World) (z : Bool) (hz : inR n 1 M6 = z) : Calls Tryz.prog 57 #[.int .i64 n] w fun e w' => e = .returned (.bool z) ∧ w = w' := by
  go_enter Tryz.func57, Tryz.ntmps57
  go_wp2_with fail
  refine (rin_any n 1 M6 _ z hz).mono ?_
  rintro e w' ⟨rfl, rfl⟩
  go_wp2
  go_ret
  exact ⟨rfl, rfl⟩
set_option maxHeartbeats 4000000 in
set_option maxRecDepth 100000 in
theorem rhost_any (s : ByteArray) (w : World) (hs : s.size ≤ 1048576) (z : Bool) (hz : hostOK s = z) :
    Calls Tryz.prog 55 #[.string s] w fun e w' => e = .returned (.bool z) ∧ Hid (Chg [] w w') := by
  obtain ⟨h, p, e, hh⟩ : ∃ h p e, hostF s = (h, p, e) := ⟨_, _, _, rfl⟩
  have HH := Lib.hid hh
  have hz2 : z = decide ((h, p, e) = (s, -1, 0)) := by rw [← hz, ← hh]; rfl
  clear hz hh
  go_enter Tryz.func55, Tryz.ntmps55
  go_wp2_with fail
  refine (rHost_any s _ hs h p e HH.out).mono ?_
  rintro o w2 ⟨rfl, HC⟩
  by_cases k1 : e = 0
  · subst k1
    by_cases k2 : p = -1
    · subst k2
      by_cases k3 : h = s
      · subst k3
        have HZ := Lib.hid (show z = true from by rw [hz2]; exact decide_eq_true rfl)
        have k4 := eqb_true h
        clear hz2
        go_wp2
        go_ret
        exact ⟨by rw [HZ.out]; rfl, HC.out⟩
      · have HZ := Lib.hid (show z = false from by rw [hz2]; exact decide_eq_false (fun q => k3 (Prod.mk.inj q).1))
        have k4 := eqb_false k3
        clear hz2 k3
        go_wp2
        go_ret
        exact ⟨by rw [HZ.out]; rfl, HC.out⟩
    · have HZ := Lib.hid (show z = false from by rw [hz2]; exact decide_eq_false (fun q => k2 (Prod.mk.inj (Prod.mk.inj q).2).1))
      have k4 : (p == -1) = false := beq_eq_false_iff_ne.2 k2
      clear hz2 k2
      go_wp2
      go_ret
      exact ⟨by rw [HZ.out]; rfl, HC.out⟩
  · have HZ := Lib.hid (show z = false from by rw [hz2]; exact decide_eq_false (fun q => k1 (Prod.mk.inj (Prod.mk.inj q).2).2))
    have k4 : (e == 0) = false := beq_eq_false_iff_ne.2 k1
    clear hz2 k1
    go_wp2
    go_ret
    exact ⟨by rw [HZ.out]; rfl, HC.out⟩
set_option maxHeartbeats 4000000 in
set_option maxRecDepth 100000 in
theorem rplace_any (s : ByteArray) (w : World) (z : Bool) (hz : placeOK s = z) :
    Calls Tryz.prog 58 #[.string s] w fun e w' => e = .returned (.bool z) ∧ Hid (Chg [] w w') := by
  obtain ⟨c, g, hc⟩ : ∃ c g, cleanF s = (c, g) := ⟨_, _, rfl⟩
  have HCL := Lib.hid hc
  clear hc
  go_enter Tryz.func58, Tryz.ntmps58
  go_wp2_with fail
  refine (rparse_any GETb s _).mono ?_
  rintro o W2 ⟨rfl, H2⟩
  obtain ⟨f, h, p, pa, q, a, hform⟩ := parseF_form GETb s (ixOf s)
  obtain ⟨e, he⟩ : ∃ e, (parseF GETb s (ixOf s)).2 = e := ⟨_, rfl⟩
  have hz2 := hz.symm.trans (place_val (v := ixOf s) (e := e) (Prod.ext hform he) HCL.out)
  rw [hform, he]
  have HB := Lib.hid (Blk.new W2 (tgt f h p pa q a) 76)
  have HC2 := Lib.hid (H2.out.alloc (.cells (tgt f h p pa q a).toArray 76))
  have HRC := Lib.hid (fun W => rclean_any s W c g HCL.out)
  clear hz hform he
  unfold tgt at HB HC2 ⊢
  go_upto_region 2 with fail
  generalize W2.alloc _ = W3 at HB HC2 ⊢
  generalize W2.heap.size = b at HB ⊢
  have c0 := HB.out.cell 0 _ rfl
  have c5 := HB.out.cell 5 _ rfl
  by_cases k1 : e = 0
  · subst k1
    rw [decide_eq_true rfl, Bool.true_and] at hz2
    by_cases k3 : f = 1
    · subst k3
      rw [decide_eq_true (show (1 : Int) = 1 from rfl), Bool.true_and] at hz2
      cases a
      · rw [Bool.not_false, Bool.true_and] at hz2
        go_wp2_with fail
        refine (HRC.out _).mono ?_
        rintro o W4 ⟨rfl, H4⟩
        have HC := Lib.hid (HC2.out.trans H4.out (by simp))
        by_cases k2 : g = 0
        · subst k2
          rw [decide_eq_true (show (0 : Int) = 0 from rfl), Bool.and_true] at hz2
          by_cases k5 : c = s
          · have HZ := Lib.hid (show z = true from by rw [hz2]; exact decide_eq_true k5)
            have k6 : (c.toList == s.toList) = true := by rw [k5]; exact eqb_true s
            clear hz2 k5
            go_wp2
            go_ret
            exact ⟨by rw [HZ.out]; rfl, HC.out⟩
          · have HZ := Lib.hid (show z = false from by rw [hz2]; exact decide_eq_false k5)
            have k6 := eqb_false k5
            clear hz2 k5
            go_wp2
            go_ret
            exact ⟨by rw [HZ.out]; rfl, HC.out⟩
        · have HZ := Lib.hid (show z = false from by rw [hz2, decide_eq_false k2, Bool.and_false])
          have k4 : (g == 0) = false := beq_eq_false_iff_ne.2 k2
          clear hz2 k2
          go_wp2
          go_ret
          exact ⟨by rw [HZ.out]; rfl, HC.out⟩
      · have HZ := Lib.hid (show z = false from by rw [hz2]; rfl)
        have HC := HC2
        clear hz2
        go_wp2
        go_ret
        exact ⟨by rw [HZ.out]; rfl, HC.out⟩
    · have HZ := Lib.hid (show z = false from by rw [hz2, decide_eq_false k3]; rfl)
      have k4 : (f == 1) = false := beq_eq_false_iff_ne.2 k3
      have HC := HC2
      clear hz2
      go_wp2
      go_ret
      exact ⟨by rw [HZ.out]; rfl, HC.out⟩
  · have HZ := Lib.hid (show z = false from by rw [hz2, decide_eq_false k1]; rfl)
    have k4 : (e == 0) = false := beq_eq_false_iff_ne.2 k1
    have HC := HC2
    clear hz2
    go_wp2
    go_ret
    exact ⟨by rw [HZ.out]; rfl, HC.out⟩
end Go.Proofs.YtjndgkbikhndoaaGreatDoor
