/- Layer 6: Host. -/
import Derived.Test.YtjndgkbikhndoaaGreatDoorT4
import Derived.OwnWalk
namespace Go.Proofs.YtjndgkbikhndoaaGreatDoor
open Go.RowKit Go.ChangeShapes Go.WideShapes
set_option linter.unusedVariables false

/-- Where the port's colon stands; -1: there is none. -/
def colonI (s : ByteArray) : Int := if Lib.lastIndexByte s 58 < Lib.lastIndexByte s 93 then -1 else Lib.lastIndexByte s 58
def nameB (s : ByteArray) : ByteArray := if 0 ≤ colonI s then s.extract 0 (colonI s).toNat else s
def digB (s : ByteArray) : ByteArray := if 0 ≤ colonI s then s.extract ((colonI s).toNat + 1) s.size else ⟨#[]⟩
/-- What a name and a port's digits say. -/
def hostG (name dig : ByteArray) : ByteArray × Int × Int :=
  if hostL name.data.toList = false then (⟨#[]⟩, 0, 61)
  else if dig.toList.isEmpty = true then (low name, -1, 0)
  else if (numF dig.data.toList).2 ≠ 0 ∨ 5 < dig.size ∨ 65535 < (numF dig.data.toList).1 then (⟨#[]⟩, 0, 62)
  else (low name, (numF dig.data.toList).1, 0)
def hostF (s : ByteArray) : ByteArray × Int × Int := hostG (nameB s) (digB s)
theorem slice_to (s : ByteArray) (b : Nat) (w : World) (hb : b ≤ s.size) : (Instr.slice 9 (.string s) none (some (.int .i64 (b : Int))) none).run Tryz.prog w = .ok (.string (s.extract 0 b)) w := by
  have := run_slice_string_to_if (P := Tryz.prog) w 9 s .i64 (b : Int) Tryz.underlying9
  rw [this]
  simp
  omega
theorem slice_from (s : ByteArray) (a : Nat) (w : World) (ha : a ≤ s.size) : (Instr.slice 9 (.string s) (some (.int .i64 (a : Int))) none none).run Tryz.prog w = .ok (.string (s.extract a s.size)) w := by
  have := run_slice_string_from_if (P := Tryz.prog) w 9 s .i64 (a : Int) Tryz.underlying9
  rw [this]
  simp
  omega
theorem ext_size (t : ByteArray) (a b : Nat) : (t.extract a b).size ≤ t.size := by
  show (t.extract a b).data.size ≤ t.data.size
  rw [ByteArray.data_extract, Array.size_extract]
  omega
theorem emp_empty : (⟨#[]⟩ : ByteArray).toList.isEmpty = true := by rw [Lib.toList_data]; rfl
theorem hostG_no {n d : ByteArray} (h : hostL n.data.toList = false) : hostG n d = (⟨#[]⟩, 0, 61) := by
  unfold hostG
  rw [if_pos h]
theorem hostG_bare {n d : ByteArray} (h : hostL n.data.toList = true) (h2 : d.toList.isEmpty = true) : hostG n d = (low n, -1, 0) := by
  unfold hostG
  rw [if_neg (by rw [h]; decide), if_pos h2]
theorem hostG_bad {n d : ByteArray} {a b : Int} (h : hostL n.data.toList = true) (h2 : d.toList.isEmpty = false) (h3 : numF d.data.toList = (a, b)) (h4 : b ≠ 0 ∨ 5 < d.size ∨ 65535 < a) : hostG n d = (⟨#[]⟩, 0, 62) := by
  unfold hostG
  rw [if_neg (by rw [h]; decide), if_neg (by rw [h2]; decide), h3, if_pos h4]
theorem hostG_ok {n d : ByteArray} {a : Int} (h : hostL n.data.toList = true) (h2 : d.toList.isEmpty = false) (h3 : numF d.data.toList = (a, 0)) (h4 : d.size ≤ 5) (h5 : a ≤ 65535) : hostG n d = (low n, a, 0) := by
  unfold hostG
  rw [if_neg (by rw [h]; decide), if_neg (by rw [h2]; decide), h3, if_neg (by simp; omega)]
set_option maxHeartbeats 4000000 in
set_option maxRecDepth 100000 in
theorem Host_any (s : ByteArray) (w : World) (hs : s.size ≤ 1048576) (hE : Hid (Env w)) (h : ByteArray) (p e : Int) (hz : hostF s = (h, p, e)) :
    Calls Tryz.prog 47 #[.string s] w fun o w' => o = .returned (.tuple #[.string h, .int .i64 p, .int .i64 e]) ∧ Hid (Chg [] w w') := by
  have hz3 : (s.size : Int) ≤ 1048576 := by omega
  have HC := Lib.hid (fun w => Tryz.strings_LastIndexByte s 58 (by omega) w)
  have HD := Lib.hid (fun w => Tryz.strings_LastIndexByte s 93 (by omega) w)
  have hb : Lib.lastIndexByte s 58 < s.size := by
    rcases Lib.lastIndexByte_spec s 58 with ⟨q, -⟩ | ⟨i, q1, q2, -⟩ <;> omega
  unfold hostF nameB digB colonI at hz
  generalize Lib.lastIndexByte s 58 = i at *
  generalize Lib.lastIndexByte s 93 = j at *
  by_cases h1 : i < j
  · rw [if_pos h1, if_neg (by decide), if_neg (by decide)] at hz
    go_enter Tryz.func47, Tryz.ntmps47
    go_wp2_with (go_at_call 70; first | ((with_reducible refine (HC.out _).mono ?_); rintro e w' ⟨rfl, rfl⟩) | ((with_reducible refine (HD.out _).mono ?_); rintro e w' ⟨rfl, rfl⟩))
    have HW := Lib.hid (Chg.refl [] w')
    have ln := hs
    clear h1
    cases k1 : hostL s.data.toList
    · rw [hostG_no k1] at hz
      obtain ⟨z1, z2⟩ := Prod.mk.inj hz
      obtain ⟨z2, z3⟩ := Prod.mk.inj z2
      subst z1 z2 z3
      have HH := Lib.hid (fun w => host_any s w ln false k1)
      clear hz k1
      go_wp2_with (go_at_call 71; (with_reducible refine (HH.out _).mono ?_); rintro e w2 ⟨rfl, H2⟩)
      go_ret3
      exact ⟨rfl, HW.out.trans H2.out (by simp)⟩
    · rw [hostG_bare k1 emp_empty] at hz
      obtain ⟨z1, z2⟩ := Prod.mk.inj hz
      obtain ⟨z2, z3⟩ := Prod.mk.inj z2
      subst z1 z2 z3
      have HH := Lib.hid (fun w => host_any s w ln true k1)
      clear hz k1
      go_wp2_with (go_at_call 71; (with_reducible refine (HH.out _).mono ?_); rintro e w2 ⟨rfl, H2⟩)
      refine (lower_any s _ ln).mono ?_
      rintro e w3 ⟨rfl, H3⟩
      go_wp2
      go_ret3
      exact ⟨rfl, (HW.out.trans H2.out (by simp)).trans H3.out (by simp)⟩
  · rw [if_neg h1] at hz
    by_cases h2 : 0 ≤ i
    · rw [if_pos h2, if_pos h2] at hz
      obtain ⟨k, rfl⟩ : ∃ k : Nat, i = k := ⟨i.toNat, by omega⟩
      rw [Int.toNat_natCast] at hz
      have q1 := fun w => slice_to s k w (by omega)
      have q2 := fun w => slice_from s (k + 1) w (by omega)
      rw [show ((k + 1 : Nat) : Int) = (k : Int) + 1 by omega] at q2
      have l1 := ext_size s 0 k
      have l2 := ext_size s (k + 1) s.size
      generalize s.extract 0 k = name at *
      generalize s.extract (k + 1) s.size = dig at *
      go_enter Tryz.func47, Tryz.ntmps47
      go_wp2_with (go_at_call 70; first | ((with_reducible refine (HC.out _).mono ?_); rintro e w' ⟨rfl, rfl⟩) | ((with_reducible refine (HD.out _).mono ?_); rintro e w' ⟨rfl, rfl⟩))
      go_region
      have HW := Lib.hid ((Chg.refl [] w').drew)
      have HE := Lib.hid (hE.out.chg HW.out)
      have ln : name.size ≤ 1048576 := by omega
      have ld : dig.size ≤ 1048576 := by omega
      clear q1 q2 l1 l2 h1
      generalize w'.drew = w1 at *
      (cases k1 : hostL name.data.toList;
       · (rw [hostG_no k1] at hz;
          obtain ⟨z1, z2⟩ := Prod.mk.inj hz;
          obtain ⟨z2, z3⟩ := Prod.mk.inj z2;
          subst z1 z2 z3;
          have HH := Lib.hid (fun w => host_any name w ln false k1);
          clear hz k1 ld;
          go_wp2_with (go_at_call 71; (with_reducible refine (HH.out _).mono ?_); rintro e w2 ⟨rfl, H2⟩);
          go_ret3;
          exact ⟨rfl, HW.out.trans H2.out (by simp)⟩)
       · (have HH := Lib.hid (fun w => host_any name w ln true k1);
          cases k2 : dig.toList.isEmpty;
          · (obtain ⟨a, b, hab⟩ : ∃ a b, numF dig.data.toList = (a, b) := ⟨_, _, rfl⟩;
             by_cases k3 : b = 0;
             · (subst k3;
                by_cases k4 : 5 < dig.size;
                · (rw [hostG_bad k1 k2 hab (.inr (.inl k4))] at hz;
                   obtain ⟨z1, z2⟩ := Prod.mk.inj hz;
                   obtain ⟨z2, z3⟩ := Prod.mk.inj z2;
                   subst z1 z2 z3;
                   have HAB := Lib.hid hab;
                   have k5 : (5 : Int) < (dig.size : Int) := by omega;
                   clear hz k1 hab k4;
                   go_wp2_with (go_at_call 71; (with_reducible refine (HH.out _).mono ?_); rintro e w2 ⟨rfl, H2⟩);
                   have HE2 := Lib.hid (HE.out.chg H2.out);
                   refine (number_any dig _ ld HE2 _ _ HAB.out).mono ?_;
                   rintro e w3 ⟨rfl, H3⟩;
                   go_wp2;
                   go_ret3;
                   exact ⟨rfl, (HW.out.trans H2.out (by simp)).trans H3.out (by simp)⟩)
                · (have k5 : ¬ (5 : Int) < (dig.size : Int) := by omega;
                   by_cases k6 : 65535 < a;
                   · (rw [hostG_bad k1 k2 hab (.inr (.inr k6))] at hz;
                      obtain ⟨z1, z2⟩ := Prod.mk.inj hz;
                      obtain ⟨z2, z3⟩ := Prod.mk.inj z2;
                      subst z1 z2 z3;
                      have HAB := Lib.hid hab;
                      clear hz k1 hab k4;
                      go_wp2_with (go_at_call 71; (with_reducible refine (HH.out _).mono ?_); rintro e w2 ⟨rfl, H2⟩);
                      have HE2 := Lib.hid (HE.out.chg H2.out);
                      refine (number_any dig _ ld HE2 _ _ HAB.out).mono ?_;
                      rintro e w3 ⟨rfl, H3⟩;
                      go_wp2;
                      go_ret3;
                      exact ⟨rfl, (HW.out.trans H2.out (by simp)).trans H3.out (by simp)⟩)
                   · (rw [hostG_ok k1 k2 hab (by omega) (by omega)] at hz;
                      obtain ⟨z1, z2⟩ := Prod.mk.inj hz;
                      obtain ⟨z2, z3⟩ := Prod.mk.inj z2;
                      subst z1 z2 z3;
                      have HAB := Lib.hid hab;
                      clear hz k1 hab k4;
                      go_wp2_with (go_at_call 71; (with_reducible refine (HH.out _).mono ?_); rintro e w2 ⟨rfl, H2⟩);
                      have HE2 := Lib.hid (HE.out.chg H2.out);
                      refine (number_any dig _ ld HE2 _ _ HAB.out).mono ?_;
                      rintro e w3 ⟨rfl, H3⟩;
                      go_wp2_with fail;
                      refine (lower_any name _ ln).mono ?_;
                      rintro e w4 ⟨rfl, H4⟩;
                      go_wp2;
                      go_ret3;
                      exact ⟨rfl, ((HW.out.trans H2.out (by simp)).trans H3.out (by simp)).trans H4.out (by simp)⟩)))
             · (rw [hostG_bad k1 k2 hab (.inl k3)] at hz;
                obtain ⟨z1, z2⟩ := Prod.mk.inj hz;
                obtain ⟨z2, z3⟩ := Prod.mk.inj z2;
                subst z1 z2 z3;
                have HAB := Lib.hid hab;
                clear hz k1 hab;
                go_wp2_with (go_at_call 71; (with_reducible refine (HH.out _).mono ?_); rintro e w2 ⟨rfl, H2⟩);
                have HE2 := Lib.hid (HE.out.chg H2.out);
                refine (number_any dig _ ld HE2 _ _ HAB.out).mono ?_;
                rintro e w3 ⟨rfl, H3⟩;
                go_wp2;
                go_ret3;
                exact ⟨rfl, (HW.out.trans H2.out (by simp)).trans H3.out (by simp)⟩))
          · (rw [hostG_bare k1 k2] at hz;
             obtain ⟨z1, z2⟩ := Prod.mk.inj hz;
             obtain ⟨z2, z3⟩ := Prod.mk.inj z2;
             subst z1 z2 z3;
             clear hz k1 ld;
             go_wp2_with (go_at_call 71; (with_reducible refine (HH.out _).mono ?_); rintro e w2 ⟨rfl, H2⟩);
             refine (lower_any name _ ln).mono ?_;
             rintro e w3 ⟨rfl, H3⟩;
             go_wp2;
             go_ret3;
             exact ⟨rfl, (HW.out.trans H2.out (by simp)).trans H3.out (by simp)⟩)))
    · rw [if_neg h2, if_neg h2] at hz
      go_enter Tryz.func47, Tryz.ntmps47
      go_wp2_with (go_at_call 70; first | ((with_reducible refine (HC.out _).mono ?_); rintro e w' ⟨rfl, rfl⟩) | ((with_reducible refine (HD.out _).mono ?_); rintro e w' ⟨rfl, rfl⟩))
      have HW := Lib.hid (Chg.refl [] w')
      have ln := hs
      clear h1
      cases k1 : hostL s.data.toList
      · rw [hostG_no k1] at hz
        obtain ⟨z1, z2⟩ := Prod.mk.inj hz
        obtain ⟨z2, z3⟩ := Prod.mk.inj z2
        subst z1 z2 z3
        have HH := Lib.hid (fun w => host_any s w ln false k1)
        clear hz k1
        go_wp2_with (go_at_call 71; (with_reducible refine (HH.out _).mono ?_); rintro e w2 ⟨rfl, H2⟩)
        go_ret3
        exact ⟨rfl, HW.out.trans H2.out (by simp)⟩
      · rw [hostG_bare k1 emp_empty] at hz
        obtain ⟨z1, z2⟩ := Prod.mk.inj hz
        obtain ⟨z2, z3⟩ := Prod.mk.inj z2
        subst z1 z2 z3
        have HH := Lib.hid (fun w => host_any s w ln true k1)
        clear hz k1
        go_wp2_with (go_at_call 71; (with_reducible refine (HH.out _).mono ?_); rintro e w2 ⟨rfl, H2⟩)
        refine (lower_any s _ ln).mono ?_
        rintro e w3 ⟨rfl, H3⟩
        go_wp2
        go_ret3
        exact ⟨rfl, (HW.out.trans H2.out (by simp)).trans H3.out (by simp)⟩
end Go.Proofs.YtjndgkbikhndoaaGreatDoor
