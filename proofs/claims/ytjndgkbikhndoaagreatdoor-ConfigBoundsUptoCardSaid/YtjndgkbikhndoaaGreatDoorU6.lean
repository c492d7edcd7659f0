/- Layer 6, the reference: Host. -/
import Derived.Test.YtjndgkbikhndoaaGreatDoorU2
import Derived.Test.YtjndgkbikhndoaaGreatDoorU5
namespace Go.Proofs.YtjndgkbikhndoaaGreatDoor
open Go.RowKit Go.ChangeShapes Go.WideShapes
set_option linter.unusedVariables false

set_option maxHeartbeats 4000000 in
set_option maxRecDepth 100000 in
theorem rHost_any (s : ByteArray) (w : World) (hs : s.size ≤ 1048576) (h : ByteArray) (p e : Int) (hz : hostF s = (h, p, e)) :
    Calls Tryz.prog 80 #[.string s] w fun o w' => o = .returned (.tuple #[.string h, .int .i64 p, .int .i64 e]) ∧ Hid (Chg [] w w') := by
  have hz3 : (s.size : Int) ≤ 1048576 := by omega
  have HC := Lib.hid (fun w => last_any s 58 w hs _ rfl)
  have HD := Lib.hid (fun w => last_any s 93 w hs _ rfl)
  have hb : Lib.lastIndexByte s 58 < s.size := by
    rcases Lib.lastIndexByte_spec s 58 with ⟨q, -⟩ | ⟨i, q1, q2, -⟩ <;> omega
  have hge : -1 ≤ Lib.lastIndexByte s 58 ∧ -1 ≤ Lib.lastIndexByte s 93 := by
    rcases Lib.lastIndexByte_spec s 58 with ⟨q, -⟩ | ⟨i, q1, q2, -⟩ <;> rcases Lib.lastIndexByte_spec s 93 with ⟨q', -⟩ | ⟨i', q1', q2', -⟩ <;> omega
  have hne : 0 ≤ Lib.lastIndexByte s 58 → Lib.lastIndexByte s 58 ≠ Lib.lastIndexByte s 93 := by
    intro h0 h1
    rcases Lib.lastIndexByte_spec s 58 with ⟨q, -⟩ | ⟨i, q1, q2, q3, -⟩
    · omega
    · rcases Lib.lastIndexByte_spec s 93 with ⟨q', -⟩ | ⟨i', q1', q2', q3', -⟩
      · omega
      · obtain rfl : i = i' := by omega
        omega
  unfold hostF nameB digB colonI at hz
  generalize Lib.lastIndexByte s 58 = i at *
  generalize Lib.lastIndexByte s 93 = j at *
  by_cases h1 : j < i
  · have h2 : 0 ≤ i := by omega
    rw [if_neg (show ¬ i < j by omega), if_pos h2, if_pos h2] at hz
    obtain ⟨k, rfl⟩ : ∃ k : Nat, i = k := ⟨i.toNat, by omega⟩
    rw [Int.toNat_natCast] at hz
    have q1 := fun w => slice_to s k w (by omega)
    have q2 := fun w => slice_from s (k + 1) w (by omega)
    rw [show ((k + 1 : Nat) : Int) = (k : Int) + 1 by omega] at q2
    have l1 := ext_size s 0 k
    have l2 := ext_size s (k + 1) s.size
    generalize s.extract 0 k = name at *
    generalize s.extract (k + 1) s.size = dig at *
    have ln : name.size ≤ 1048576 := by omega
    have ld : dig.size ≤ 1048576 := by omega
    clear l1 l2 hne hge
    go_enter Tryz.func80, Tryz.ntmps80
    go_wp2_with (go_at_call 108; first | ((with_reducible refine (HC.out _).mono ?_); rintro e w' ⟨rfl, rfl⟩) | ((with_reducible refine (HD.out _).mono ?_); rintro e w' ⟨rfl, rfl⟩))
    (cases k1 : hostL name.data.toList;
     · (rw [hostG_no k1] at hz;
        (obtain ⟨z1, z2⟩ := Prod.mk.inj hz;
         obtain ⟨z2, z3⟩ := Prod.mk.inj z2;
         subst z1 z2 z3);
        have HH := Lib.hid (fun w => named_any name w ln false k1);
        clear hz k1 ld;
        go_wp2_with (go_at_call 109; (with_reducible refine (HH.out _).mono ?_); rintro e w2 ⟨rfl, rfl⟩);
        go_ret3;
        exact ⟨rfl, Chg.refl _ _⟩)
     · (have HH := Lib.hid (fun w => named_any name w ln true k1);
        cases k2 : dig.toList.isEmpty;
        · (obtain ⟨a, b, hab⟩ : ∃ a b, numF dig.data.toList = (a, b) := ⟨_, _, rfl⟩;
           have HD37 := Lib.hid (fun w => rdigits_any dig w ld a b hab);
           by_cases k3 : b = 0;
           · (subst k3;
              by_cases k4 : 5 < dig.size;
              · (rw [hostG_bad k1 k2 hab (.inr (.inl k4))] at hz;
                 (obtain ⟨z1, z2⟩ := Prod.mk.inj hz;
                  obtain ⟨z2, z3⟩ := Prod.mk.inj z2;
                  subst z1 z2 z3);
                 have k5 : (5 : Int) < (dig.size : Int) := by omega;
                 clear hz k1 hab k4;
                 go_wp2_with (first | (go_at_call 109; (with_reducible refine (HH.out _).mono ?_); rintro e w2 ⟨rfl, rfl⟩) | (go_at_call 110; (with_reducible refine (HD37.out _).mono ?_); rintro e w3 ⟨rfl, rfl⟩));
                 go_ret3;
                 exact ⟨rfl, Chg.refl _ _⟩)
              · (have k5 : ¬ (5 : Int) < (dig.size : Int) := by omega;
                 by_cases k6 : 65535 < a;
                 · (rw [hostG_bad k1 k2 hab (.inr (.inr k6))] at hz;
                    (obtain ⟨z1, z2⟩ := Prod.mk.inj hz;
                     obtain ⟨z2, z3⟩ := Prod.mk.inj z2;
                     subst z1 z2 z3);
                    clear hz k1 hab k4;
                    go_wp2_with (first | (go_at_call 109; (with_reducible refine (HH.out _).mono ?_); rintro e w2 ⟨rfl, rfl⟩) | (go_at_call 110; (with_reducible refine (HD37.out _).mono ?_); rintro e w3 ⟨rfl, rfl⟩));
                    go_ret3;
                    exact ⟨rfl, Chg.refl _ _⟩)
                 · (rw [hostG_ok k1 k2 hab (by omega) (by omega)] at hz;
                    (obtain ⟨z1, z2⟩ := Prod.mk.inj hz;
                     obtain ⟨z2, z3⟩ := Prod.mk.inj z2;
                     subst z1 z2 z3);
                    clear hz k1 hab k4;
                    go_wp2_with (first | (go_at_call 109; (with_reducible refine (HH.out _).mono ?_); rintro e w2 ⟨rfl, rfl⟩) | (go_at_call 110; (with_reducible refine (HD37.out _).mono ?_); rintro e w3 ⟨rfl, rfl⟩));
                    refine (rlower_any name _ ln).mono ?_;
                    rintro e w4 ⟨rfl, H4⟩;
                    go_wp2;
                    go_ret3;
                    exact ⟨rfl, H4.out⟩)))
           · (rw [hostG_bad k1 k2 hab (.inl k3)] at hz;
              (obtain ⟨z1, z2⟩ := Prod.mk.inj hz;
               obtain ⟨z2, z3⟩ := Prod.mk.inj z2;
               subst z1 z2 z3);
              clear hz k1 hab;
              go_wp2_with (first | (go_at_call 109; (with_reducible refine (HH.out _).mono ?_); rintro e w2 ⟨rfl, rfl⟩) | (go_at_call 110; (with_reducible refine (HD37.out _).mono ?_); rintro e w3 ⟨rfl, rfl⟩));
              go_ret3;
              exact ⟨rfl, Chg.refl _ _⟩))
        · (rw [hostG_bare k1 k2] at hz;
           (obtain ⟨z1, z2⟩ := Prod.mk.inj hz;
            obtain ⟨z2, z3⟩ := Prod.mk.inj z2;
            subst z1 z2 z3);
           clear hz k1 ld;
           go_wp2_with (go_at_call 109; (with_reducible refine (HH.out _).mono ?_); rintro e w2 ⟨rfl, rfl⟩);
           refine (rlower_any name _ ln).mono ?_;
           rintro e w4 ⟨rfl, H4⟩;
           go_wp2;
           go_ret3;
           exact ⟨rfl, H4.out⟩)))
  · have hz' : hostG s ⟨#[]⟩ = (h, p, e) := by
      by_cases h3 : i < j
      · rw [if_pos h3, if_neg (by decide), if_neg (by decide)] at hz
        exact hz
      · have h4 : ¬ 0 ≤ i := fun h0 => hne h0 (by omega)
        rw [if_neg h3, if_neg h4, if_neg h4] at hz
        exact hz
    have ln := hs
    have h5 : ¬ i > j := h1
    clear hz hne hge
    have hz := hz'
    clear hz'
    cases k1 : hostL s.data.toList
    · rw [hostG_no k1] at hz
      (obtain ⟨z1, z2⟩ := Prod.mk.inj hz;
       obtain ⟨z2, z3⟩ := Prod.mk.inj z2;
       subst z1 z2 z3)
      have HH := Lib.hid (fun w => named_any s w ln false k1)
      clear hz k1
      go_enter Tryz.func80, Tryz.ntmps80
      go_wp2_with (first | (go_at_call 108; first | ((with_reducible refine (HC.out _).mono ?_); rintro e w' ⟨rfl, rfl⟩) | ((with_reducible refine (HD.out _).mono ?_); rintro e w' ⟨rfl, rfl⟩)) | (go_at_call 109; (with_reducible refine (HH.out _).mono ?_); rintro e w2 ⟨rfl, rfl⟩))
      go_ret3
      exact ⟨rfl, Chg.refl _ _⟩
    · rw [hostG_bare k1 emp_empty] at hz
      (obtain ⟨z1, z2⟩ := Prod.mk.inj hz;
       obtain ⟨z2, z3⟩ := Prod.mk.inj z2;
       subst z1 z2 z3)
      have HH := Lib.hid (fun w => named_any s w ln true k1)
      clear hz k1
      go_enter Tryz.func80, Tryz.ntmps80
      go_wp2_with (first | (go_at_call 108; first | ((with_reducible refine (HC.out _).mono ?_); rintro e w' ⟨rfl, rfl⟩) | ((with_reducible refine (HD.out _).mono ?_); rintro e w' ⟨rfl, rfl⟩)) | (go_at_call 109; (with_reducible refine (HH.out _).mono ?_); rintro e w2 ⟨rfl, rfl⟩))
      refine (rlower_any s _ ln).mono ?_
      rintro e w4 ⟨rfl, H4⟩
      go_wp2
      go_ret3
      exact ⟨rfl, H4.out⟩
end Go.Proofs.YtjndgkbikhndoaaGreatDoor
