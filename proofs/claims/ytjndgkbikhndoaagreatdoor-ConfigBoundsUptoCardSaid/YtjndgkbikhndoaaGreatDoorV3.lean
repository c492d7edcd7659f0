/- Layer 13 (config), the program: host, place. -/
import Derived.Test.YtjndgkbikhndoaaGreatDoorV2
namespace Go.Proofs.YtjndgkbikhndoaaGreatDoor
open Go.RowKit Go.ChangeShapes Go.WideShapes
set_option linter.unusedVariables false

theorem eqb_true (s : ByteArray) : (s.toList == s.toList) = true := beq_self_eq_true _
theorem eqb_false {s t : ByteArray} (h : s ≠ t) : (s.toList == t.toList) = false := by
  rw [beq_eq_false_iff_ne, Lib.toList_data, Lib.toList_data]
  intro e
  exact h (by rw [ofList s _ e, ← ofList t _ rfl])
set_option maxHeartbeats 4000000 in
set_option maxRecDepth 100000 in
theorem chost_any (s : ByteArray) (w : World) (hs : s.size ≤ 1048576) (hE : Hid (Env w)) (z : Bool) (hz : hostOK s = z) :
    Calls Tryz.prog 33 #[.string s] w fun e w' => e = .returned (.bool z) ∧ Hid (Chg [] w w') := by
  obtain ⟨h, p, e, hh⟩ : ∃ h p e, hostF s = (h, p, e) := ⟨_, _, _, rfl⟩
  have HH := Lib.hid hh
  have hz2 : z = decide ((h, p, e) = (s, -1, 0)) := by rw [← hz, ← hh]; rfl
  clear hz hh
  go_enter Tryz.func33, Tryz.ntmps33
  go_wp2_with fail
  refine (Host_any s _ hs hE h p e HH.out).mono ?_
  rintro o w2 ⟨rfl, HC⟩
  by_cases k1 : e = 0
  · subst k1
    by_cases k2 : p = -1
    · subst k2
      by_cases k3 : h = s
      · subst k3
        have HZ := Lib.hid (show z = true from by rw [hz2]; exact decide_eq_true rfl)
        have k4 := eqb_true h
        clear hz2
        go_wp2
        go_ret
        exact ⟨by rw [HZ.out]; rfl, HC.out⟩
      · have HZ := Lib.hid (show z = false from by rw [hz2]; exact decide_eq_false (fun q => k3 (Prod.mk.inj q).1))
        have k4 := eqb_false k3
        clear hz2 k3
        go_wp2
        go_ret
        exact ⟨by rw [HZ.out]; rfl, HC.out⟩
    · have HZ := Lib.hid (show z = false from by rw [hz2]; exact decide_eq_false (fun q => k2 (Prod.mk.inj (Prod.mk.inj q).2).1))
      have k4 : (p == -1) = false := beq_eq_false_iff_ne.2 k2
      clear hz2 k2
      go_wp2
      go_ret
      exact ⟨by rw [HZ.out]; rfl, HC.out⟩
  · have HZ := Lib.hid (show z = false from by rw [hz2]; exact decide_eq_false (fun q => k1 (Prod.mk.inj (Prod.mk.inj q).2).2))
    have k4 : (e == 0) = false := beq_eq_false_iff_ne.2 k1
    clear hz2 k1
    go_wp2
    go_ret
    exact ⟨by rw [HZ.out]; rfl, HC.out⟩
theorem place_val {s : ByteArray} {v f p e g : Int} {h pa q c : ByteArray} {a : Bool} (hp : parseF GETb s v = (tgt f h p pa q a, e)) (hc : cleanF s = (c, g)) :
    placeOK s = (decide (e = 0) && decide (f = 1) && !a && (decide (c = s) && decide (g = 0))) := by
  rw [place_eq s v hp]
  unfold placeOK
  rw [hc]
  congr 1
  rw [Bool.eq_iff_iff]
  simp only [decide_eq_true_eq, Bool.and_eq_true, Prod.mk.injEq]
set_option maxHeartbeats 4000000 in
set_option maxRecDepth 100000 in
theorem cplace_any (s : ByteArray) (w : World) (hE : Hid (Env w)) (z : Bool) (hz : placeOK s = z) :
    Calls Tryz.prog 37 #[.string s] w fun e w' => e = .returned (.bool z) ∧ Hid (Chg [] w w') := by
  obtain ⟨c, g, hc⟩ : ∃ c g, cleanF s = (c, g) := ⟨_, _, rfl⟩
  have HCL := Lib.hid hc
  clear hc
  go_enter Tryz.func37, Tryz.ntmps37
  go_wp2_with fail
  refine (parse_any GETb s _ hE).mono ?_
  rintro o W2 ⟨⟨v, hv, rfl⟩, H2⟩
  obtain ⟨f, h, p, pa, q, a, hform⟩ := parseF_form GETb s v
  obtain ⟨e, he⟩ : ∃ e, (parseF GETb s v).2 = e := ⟨_, rfl⟩
  have hz2 := hz.symm.trans (place_val (v := v) (e := e) (Prod.ext hform he) HCL.out)
  rw [hform, he]
  have HB := Lib.hid (Blk.new W2 (tgt f h p pa q a) 76)
  have HC2 := Lib.hid (H2.out.alloc (.cells (tgt f h p pa q a).toArray 76))
  clear hz hform he hv
  unfold tgt at HB HC2 ⊢
  go_wp2_with fail
  generalize W2.alloc _ = W3 at HB HC2 ⊢
  generalize W2.heap.size = b at HB ⊢
  refine (clean_any s _ (Lib.hid (hE.out.chg HC2.out)) c g HCL.out).mono ?_
  rintro o W4 ⟨rfl, H4⟩
  have HB4 := HB.out.chg H4.out (by simp)
  have HC := Lib.hid (HC2.out.trans H4.out (by simp))
  have c0 := HB4.cell 0 _ rfl
  have c5 := HB4.cell 5 _ rfl
  clear HB4
  by_cases k1 : e = 0
  · subst k1
    rw [decide_eq_true rfl, Bool.true_and] at hz2
    by_cases k2 : g = 0
    · subst k2
      rw [decide_eq_true (show (0 : Int) = 0 from rfl), Bool.and_true] at hz2
      by_cases k3 : f = 1
      · subst k3
        rw [decide_eq_true (show (1 : Int) = 1 from rfl), Bool.true_and] at hz2
        cases a
        · rw [Bool.not_false, Bool.true_and] at hz2
          by_cases k5 : c = s
          · have HZ := Lib.hid (show z = true from by rw [hz2]; exact decide_eq_true k5)
            have k6 : (c.toList == s.toList) = true := by rw [k5]; exact eqb_true s
            clear hz2 k5
            go_wp2
            go_ret
            exact ⟨by rw [HZ.out]; rfl, HC.out⟩
          · have HZ := Lib.hid (show z = false from by rw [hz2]; exact decide_eq_false k5)
            have k6 := eqb_false k5
            clear hz2 k5
            go_wp2
            go_ret
            exact ⟨by rw [HZ.out]; rfl, HC.out⟩
        · have HZ := Lib.hid (show z = false from by rw [hz2]; rfl)
          clear hz2
          go_wp2
          go_ret
          exact ⟨by rw [HZ.out]; rfl, HC.out⟩
      · have HZ := Lib.hid (show z = false from by rw [hz2, decide_eq_false k3]; rfl)
        have k4 : (f == 1) = false := beq_eq_false_iff_ne.2 k3
        clear hz2 k3
        go_wp2
        go_ret
        exact ⟨by rw [HZ.out]; rfl, HC.out⟩
    · have HZ := Lib.hid (show z = false from by rw [hz2, decide_eq_false k2, Bool.and_false, Bool.and_false])
      have k4 : (g == 0) = false := beq_eq_false_iff_ne.2 k2
      clear hz2 k2
      go_wp2
      go_ret
      exact ⟨by rw [HZ.out]; rfl, HC.out⟩
  · have HZ := Lib.hid (show z = false from by rw [hz2, decide_eq_false k1]; rfl)
    have k4 : (e == 0) = false := beq_eq_false_iff_ne.2 k1
    clear hz2 k1
    go_wp2
    go_ret
    exact ⟨by rw [HZ.out]; rfl, HC.out⟩
end Go.Proofs.YtjndgkbikhndoaaGreatDoor
