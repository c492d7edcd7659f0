/- Layer 6: the law TargetCleans. -/
import Derived.Test.YtoinhenekeogiaaDoorTC
import Derived.Test.YtoinhenekeogiaaDoorTH
namespace Go.Proofs.YtoinhenekeogiaaDoor
open Go.RowKit Go.ChangeShapes Go.WideShapes
set_option linter.unusedVariables false

/-- No part from here on is dots. -/
def NoD (A : List UInt8) (k : Nat) (cur : List UInt8) : Prop := k ≤ A.length → ∀ y ∈ partsL cur (A.drop k), noDots (mk y)
theorem NoD.char {A : List UInt8} {k : Nat} {cur : List UInt8} {c : UInt8} (h : NoD A k cur) (hc : A[k]? = some c) (h47 : c ≠ 47) : NoD A (k + 1) (cur ++ [c]) := by
  intro _
  have hk := (List.getElem?_eq_some_iff.1 hc).1
  have := h (by omega)
  rw [drop_get hc, partsL_no h47] at this
  exact this
theorem NoD.flush {A : List UInt8} {k : Nat} {cur : List UInt8} (h : NoD A k cur) (hc : A[k]? = some 47) : noDots (mk cur) ∧ NoD A (k + 1) [] := by
  have hk := (List.getElem?_eq_some_iff.1 hc).1
  have := h (by omega)
  rw [drop_get hc, partsL_sl] at this
  exact ⟨this cur List.mem_cons_self, fun _ y hy => this y (List.mem_cons_of_mem _ hy)⟩
theorem NoD.fin {A : List UInt8} {k : Nat} {cur : List UInt8} (h : NoD A k cur) (hk : k = A.length) : noDots (mk cur) := by
  have := h (by omega)
  rw [hk, List.drop_length] at this
  exact this cur List.mem_cons_self
set_option maxHeartbeats 8000000 in
set_option maxRecDepth 100000 in
theorem cleans_any (s : ByteArray) (w : World) (hs : s.size ≤ 1048576) (hE : Hid (Env w)) :
    Calls Tryd.prog 3 #[.string s] w fun e w' => e = .returned (.bool true) ∧ Hid (Chg [] w w') := by
  obtain ⟨c, g, hz⟩ : ∃ c g, cleanF s = (c, g) := ⟨_, _, rfl⟩
  have HZ := Lib.hid hz
  clear hz
  go_enter Tryd.func3, Tryd.ntmps3
  go_wp2_with fail
  refine (clean_any s _ hE _ _ HZ.out).mono ?_
  rintro o w1 ⟨rfl, H1⟩
  go_wp2_with fail
  refine (rclean_any s _ _ _ HZ.out).mono ?_
  rintro o w2 ⟨rfl, H2⟩
  have HC2 := Lib.hid (H1.out.trans H2.out (by simp))
  by_cases hg : g = 0
  · subst hg
    obtain ⟨ha, hsz, hnd, h8⟩ := cleanF_again HZ.out
    have hsz2 : (c.size : Int) ≤ (s.size : Int) + 1 := by omega
    have hcs : c.size ≤ 8193 := by omega
    have hcs2 : (c.size : Int) ≤ 8193 := by omega
    have hss2 : (s.size : Int) ≤ 8192 := by omega
    have HND : Hid (NoD c.data.toList 1 []) := Lib.hid (fun _ => hnd)
    have HLEN := Lib.hid (toList_len c)
    have HA := Lib.hid ha
    clear ha hnd
    go_wp2_with fail
    refine (clean_any c _ (Lib.hid (hE.out.chg HC2.out)) _ _ HA.out).mono ?_
    rintro o w3 ⟨rfl, H3⟩
    have HC3 := Lib.hid (HC2.out.trans H3.out (by simp))
    clear H1 H2 H3 HC2
    go_wp2_with fail
    go_loopw [9, 10] (fun pt i wr => ∃ (k : Nat) (t : ByteArray) (cur : List UInt8), i = .int .i64 k ∧ pt = .string t ∧ 1 ≤ k ∧ (k ≤ c.size + 1 ∨ k = 1) ∧ cur.length ≤ k ∧ Hid (t.data.toList = cur) ∧ Hid (NoD c.data.toList k cur) ∧ wr = w3) (fun _ i _ => c.size + 1 - (intOf i).toNat)
    case atStart => exact ⟨1, ⟨#[]⟩, [], rfl, rfl, by omega, .inr rfl, by simp, Lib.hid rfl, HND, rfl⟩
    case round =>
      obtain ⟨k, t, cur, rfl, rfl, hk1, hk, hcl, HT, HN, rfl⟩ := hrel
      have hts : t.size ≤ 8195 := by
        rw [← toList_len, HT.out]
        rcases hk with hk | hk <;> omega
      by_cases hle : k ≤ c.size
      · have hle2 : (k : Int) ≤ (c.size : Int) := by omega
        by_cases hlt : k < c.size
        · have hlt2 : (k : Int) < (c.size : Int) := by omega
          have hcl' := toList_get c k hlt
          obtain ⟨x, hx⟩ : ∃ x, c[k]'hlt = x := ⟨_, rfl⟩
          rw [hx] at hcl'
          by_cases h47 : x = 47
          · subst h47
            obtain ⟨hn1, hn2⟩ := HN.out.flush hcl'
            rw [← mk_eq HT.out] at hn1
            obtain ⟨e1, e2, -⟩ := hn1
            have HN2 := Lib.hid hn2
            clear hcl' HN hn2
            go_wp2
            go_roundw
            case rel => exact ⟨k + 1, ⟨#[]⟩, [], by go_num, rfl, by omega, .inl (by omega), by simp, Lib.hid rfl, HN2, by first | rfl | trivial⟩
            case measure => simp [intOf]; omega
          · have h47' : ((x.toNat : Int) == 47) = false := beq_eq_false_iff_ne.2 (fun e => h47 (UInt8.toNat_inj.1 (by have : (47 : UInt8).toNat = 47 := rfl; omega)))
            have hsl := slice_run2 c k x hcl'
            have HN2 := Lib.hid (HN.out.char hcl' h47)
            have HT2 : Hid ((t ++ mk [x]).data.toList = cur ++ [x]) := Lib.hid (by rw [ByteArray.data_append, Array.toList_append, HT.out]; rfl)
            have hcat : ¬ (9223372036854775807 < t.size + (mk [x]).size) := by
              show ¬ (9223372036854775807 < t.size + 1)
              omega
            have h47n : ((x.toNat : Int) != 47) = true := by unfold bne; rw [h47']; rfl
            clear hcl' HN HT h47
            generalize mk [x] = cb at *
            go_wp2
            go_roundw
            case rel => exact ⟨k + 1, _, cur ++ [x], by go_num, rfl, by omega, .inl (by omega), by (rw [List.length_append, List.length_singleton]; omega), HT2, HN2, by first | rfl | trivial⟩
            case measure => simp [intOf]; omega
        · obtain rfl : k = c.size := by omega
          have hn1 := HN.out.fin HLEN.out.symm
          rw [← mk_eq HT.out] at hn1
          obtain ⟨e1, e2, -⟩ := hn1
          have HN2 : Hid (NoD c.data.toList (c.size + 1) []) := Lib.hid (fun h => by rw [HLEN.out] at h; omega)
          clear HN
          go_wp2
          go_roundw
          case rel => exact ⟨c.size + 1, ⟨#[]⟩, [], by go_num, rfl, by omega, .inl (by omega), by simp, Lib.hid rfl, HN2, by first | rfl | trivial⟩
          case measure => simp [intOf]
      · have hle2 : ¬ (k : Int) ≤ (c.size : Int) := by omega
        go_wp2_with fail
        refine (speaks_any _ (Lib.hid (hE.out.chg HC3.out))).mono ?_
        rintro o w4 ⟨rfl, H4⟩
        go_wp2
        go_ret
        exact ⟨rfl, HC3.out.trans H4.out (by simp)⟩
  · go_wp2_with fail
    refine (speaks_any _ (Lib.hid (hE.out.chg HC2.out))).mono ?_
    rintro o w4 ⟨rfl, H4⟩
    go_wp2
    go_ret
    exact ⟨rfl, HC2.out.trans H4.out (by simp)⟩
end Go.Proofs.YtoinhenekeogiaaDoor
