/- Layer 5 (bytes): the reference's List. -/
import Derived.Test.YtiimofejcakgoaaDoorE9
namespace Go.Proofs.YtiimofejcakgoaaDoor
open Go.RowKit Go.ChangeShapes Go.WideShapes
set_option linter.unusedVariables false

/-- What the loop of the reference's List keeps. -/
def LInv (R : List ByteArray) (l : List UInt8) (k : Nat) (dn : List ByteArray) (t : ByteArray) (q sk : Bool) : Prop :=
  t.size ≤ k ∧ dn.length ≤ k ∧ (k ≤ l.length → dn ++ goL t.data.toList q sk (l.drop k) = R) ∧ (l.length < k → dn = R)
theorem nq_skip (q : Bool) (c : UInt8) : nq q true c = q := by unfold nq; rw [if_pos rfl]
theorem ns_skip (q : Bool) (c : UInt8) : ns q true c = false := by unfold ns; rw [if_pos rfl]
theorem nq_92 (q : Bool) (c : UInt8) (h : c.toNat = 92) : nq q false c = q := by
  unfold nq
  rw [if_neg (by decide), h]
  cases q <;> rfl
theorem ns_92 (q : Bool) (c : UInt8) (h : c.toNat = 92) : ns q false c = q := by
  unfold ns
  rw [if_neg (by decide), h]
  cases q <;> rfl
theorem nq_34 (q : Bool) (c : UInt8) (h : c.toNat = 34) : nq q false c = !q := by
  unfold nq
  rw [if_neg (by decide), h]
  cases q <;> rfl
theorem nq_other (q : Bool) (c : UInt8) (h : c.toNat ≠ 92) (h2 : c.toNat ≠ 34) : nq q false c = q := by
  unfold nq
  rw [if_neg (by decide), if_neg (fun k => h k.1), if_neg h2]
theorem ns_other (q : Bool) (c : UInt8) (h : c.toNat ≠ 92) : ns q false c = false := by
  unfold ns
  rw [if_neg (by decide), decide_eq_false (fun k => h k.1)]
theorem slice_run (s : ByteArray) (a b : Nat) (w : World) (h : a ≤ b) (hb : b ≤ s.size) : (Instr.slice 9 (.string s) (some (.int .i64 (a : Int))) (some (.int .i64 (b : Int))) none).run Tryd.prog w = .ok (.string (s.extract a b)) w := by
  have := run_slice_string (P := Tryd.prog) w 9 s .i64 .i64 (a : Int) (b : Int) Tryd.underlying9 (by omega) (by omega) (by omega)
  rw [Int.toNat_natCast, Int.toNat_natCast] at this
  exact this
theorem lflush_end {R : List ByteArray} {l : List UInt8} {k : Nat} {dn : List ByteArray} {t : ByteArray} {q sk : Bool} (h : LInv R l k dn t q sk) (hk : k = l.length) (q' sk' : Bool) : LInv R l (k + 1) (dn ++ emit t.data.toList) ⟨#[]⟩ q' sk' := by
  refine ⟨Nat.zero_le _, ?_, fun hle => by omega, fun _ => goL_end (h.2.2.1 (by omega)) (by omega)⟩
  rw [List.length_append]
  have := emit_len t.data.toList
  have := h.2.1
  omega
theorem lflush_comma {R : List ByteArray} {l : List UInt8} {k : Nat} {dn : List ByteArray} {t : ByteArray} {sk : Bool} {c : UInt8} (h : LInv R l k dn t false sk) (hc : l[k]? = some c) (h4 : c.toNat = 44) : LInv R l (k + 1) (dn ++ emit t.data.toList) ⟨#[]⟩ false sk := by
  have hk := (List.getElem?_eq_some_iff.1 hc).1
  refine ⟨Nat.zero_le _, ?_, fun hle => goL_comma (h.2.2.1 (by omega)) hc h4, fun hlt => by omega⟩
  rw [List.length_append]
  have := emit_len t.data.toList
  have := h.2.1
  omega
theorem lnext {R : List ByteArray} {l : List UInt8} {k : Nat} {dn : List ByteArray} {t t' : ByteArray} {q sk q' sk' : Bool} {c : UInt8} (h : LInv R l k dn t q sk) (hc : l[k]? = some c) (h4 : ¬ (c.toNat = 44 ∧ q = false)) (hq : nq q sk c = q') (hs : ns q sk c = sk')
    (ht : t'.data.toList = t.data.toList ++ [c]) : LInv R l (k + 1) dn t' q' sk' := by
  have hk := (List.getElem?_eq_some_iff.1 hc).1
  refine ⟨?_, by have := h.2.1; omega, fun hle => by rw [ht]; exact goL_next (h.2.2.1 (by omega)) hc h4 hq hs, fun hlt => by omega⟩
  have h1 := toList_len t'
  rw [ht, List.length_append, toList_len] at h1
  have := h.1
  simp at h1
  omega
set_option maxHeartbeats 8000000 in
set_option maxRecDepth 100000 in
theorem rlist_any (s : ByteArray) (w : World) (hs : s.size ≤ 1048576) :
    Calls Tryd.prog 37 #[.string s] w fun e w' => ∃ v, e = .returned v ∧ Hid (OwnS w.heap.size w' v (listB s.data.toList)) ∧ Hid (Chg [] w w') := by
  have hz3 : (s.size : Int) ≤ 1048576 := by omega
  obtain ⟨i0, hi, hz0, hz1, hz2⟩ := info_parts info9
  have HI := Lib.hid (And.intro hi (And.intro hz0 (And.intro hz1 hz2)))
  clear hi hz0 hz1 hz2
  go_enter Tryd.func37, Tryd.ntmps37
  go_wp2
  go_loopw [3, 4, 5, 6, 7] (fun v p q sk i wr => ∃ (k : Nat) (dn : List ByteArray) (t : ByteArray) (Q SK : Bool), i = .int .i64 k ∧ p = .string t ∧ q = .bool Q ∧ sk = .bool SK ∧ k ≤ s.size + 1 ∧ Hid (LInv (listB s.data.toList) s.data.toList k dn t Q SK) ∧ Hid (OwnS w.heap.size wr v dn) ∧ Hid (Chg [] w wr)) (fun _ _ _ _ i _ => s.size + 1 - (intOf i).toNat)
  case atStart => exact ⟨0, [], ⟨#[]⟩, false, false, rfl, rfl, rfl, rfl, by omega, Lib.hid ⟨Nat.le_refl _, Nat.le_refl _, fun _ => rfl, fun h => by omega⟩, Lib.hid (OwnS.nil _ _), Chg.refl _ _⟩
  case round =>
    obtain ⟨k, dn, t, Q, SK, rfl, rfl, rfl, rfl, hk, HL, HO, HC⟩ := hrel
    have HSZ := Lib.hid (toList_len s)
    by_cases hle : (k : Int) ≤ (s.size : Int)
    · by_cases heq : k = s.size
      · have h00 : ((k : Int) == (s.size : Int)) = true := by rw [heq]; exact beq_self_eq_true _
        have HKE := Lib.hid heq
        clear heq
        obtain ⟨A, cp, rfl⟩ := HO.out.form
        by_cases hx : Lib.trimS t.data.toList bl2 = []
        · have HE := Lib.hid (show emit t.data.toList = [] by unfold emit; rw [if_pos hx])
          have HX := Lib.hid hx
          clear hx
          go_wp2_with fail
          refine (rtrim_any t _ (by have := HL.out.1; omega)).mono ?_
          rintro e w' ⟨rfl, rfl⟩
          rw [HX.out]
          go_wp2_with fail
          go_roundw
          case rel => exact ⟨k + 1, dn, ⟨#[]⟩, _, _, by go_num, rfl, rfl, rfl, by omega, Lib.hid (by have h := (lflush_end HL.out (by rw [HSZ.out]; exact HKE.out) Q SK); rw [HE.out] at h; simpa using h), HO, HC⟩
          case measure => simp [intOf]; omega
        · have HE := Lib.hid (show emit t.data.toList = [⟨(Lib.trimS t.data.toList bl2).toArray⟩] by unfold emit; rw [if_neg hx])
          have HB : Hid ((Lib.trimS t.data.toList bl2).isEmpty = false) := Lib.hid (by cases h : Lib.trimS t.data.toList bl2 with | nil => exact absurd h hx | cons _ _ => rfl)
          clear hx
          have hrt := rtrim_any t wr (by have := HL.out.1; omega)
          generalize Lib.trimS t.data.toList bl2 = x at hrt HE HB
          have hb := HB.out
          go_wp2_with fail
          refine hrt.mono ?_
          rintro e w' ⟨rfl, rfl⟩
          go_wp2_with fail
          refine hrt.mono ?_
          rintro e w' ⟨rfl, rfl⟩
          have hdl := HL.out.2.1
          go_wp2_with (at_builtin; refine wpList_append_own _ rfl _ _ 29 rfl w.heap.size 9 i0 (.string ⟨#[]⟩) 1 16 Tryd.underlying29 HI.out.1 HI.out.2.1 HI.out.2.2.1 HI.out.2.2.2 rfl (by decide) (.slice A dn.length cp) dn.length (dn.map Value.string) rfl (World.ownsRow.alloc HO.out _) ⟨wr.heap.size, 0, none⟩ 1 1 [.string ⟨x.toArray⟩] rfl rfl (cell_one_new _ _ _) (by simp [Value.oneCell']) (by unfold maxLen; omega) (by omega) (by have := HC.out.size; simp; omega) ?_; intro v5 w5 hown hgrow _)
          have HC5 := Lib.hid (Chg.grownOwn (HC.out.alloc _) (World.ownsRow.alloc HO.out _) (Nat.le_refl _) hgrow)
          have HO5 := Lib.hid (OwnS.push hown)
          clear hown hgrow
          go_roundw
          case rel => exact ⟨k + 1, dn ++ [⟨x.toArray⟩], ⟨#[]⟩, _, _, by go_num, rfl, rfl, rfl, by omega, Lib.hid (by have h := (lflush_end HL.out (by rw [HSZ.out]; exact HKE.out) Q SK); rw [HE.out] at h; exact h), HO5, HC5⟩
          case measure => simp [intOf]; omega
      · have h00 : ((k : Int) == (s.size : Int)) = false := beq_eq_false_iff_ne.2 (by omega)
        have hlt : k < s.size := by omega
        clear heq
        have hsl := slice_run s k (k + 1) wr (by omega) (by omega)
        rw [show ((k + 1 : Nat) : Int) = (k : Int) + 1 by omega] at hsl
        have hcl := toList_get s k hlt
        have HT' := Lib.hid (show (t ++ s.extract k (k + 1)).data.toList = t.data.toList ++ [s[k]'hlt] by rw [app_list, ext_one s k _ hcl])
        have HCL := Lib.hid hcl
        have hcat : ¬ (9223372036854775807 < t.size + (min (k + 1) s.size - k)) := by have := HL.out.1; omega
        clear hcl
        by_cases h44 : ((s[k]'hlt).toNat : Int) = 44
        · have e1 : (((s[k]'hlt).toNat : Int) == 44) = true := beq_iff_eq.2 h44
          have e2 : (((s[k]'hlt).toNat : Int) == 92) = false := beq_eq_false_iff_ne.2 (by omega)
          have e3 : (((s[k]'hlt).toNat : Int) == 34) = false := beq_eq_false_iff_ne.2 (by omega)
          have H4 := Lib.hid h44
          have HNQ := Lib.hid (fun q => nq_other q (s[k]'hlt) (by omega) (by omega))
          have HNS := Lib.hid (fun q => ns_other q (s[k]'hlt) (by omega))
          clear h44
          cases Q
          · skip
            obtain ⟨A, cp, rfl⟩ := HO.out.form
            by_cases hx : Lib.trimS t.data.toList bl2 = []
            · have HE := Lib.hid (show emit t.data.toList = [] by unfold emit; rw [if_pos hx])
              have HX := Lib.hid hx
              clear hx
              go_wp2_with fail
              refine (rtrim_any t _ (by have := HL.out.1; omega)).mono ?_
              rintro e w' ⟨rfl, rfl⟩
              rw [HX.out]
              go_wp2_with fail
              go_roundw
              case rel => exact ⟨k + 1, dn, ⟨#[]⟩, _, _, by go_num, rfl, rfl, rfl, by omega, Lib.hid (by have h := (lflush_comma HL.out HCL.out (by have := H4.out; omega)); rw [HE.out] at h; simpa using h), HO, HC⟩
              case measure => simp [intOf]; omega
            · have HE := Lib.hid (show emit t.data.toList = [⟨(Lib.trimS t.data.toList bl2).toArray⟩] by unfold emit; rw [if_neg hx])
              have HB : Hid ((Lib.trimS t.data.toList bl2).isEmpty = false) := Lib.hid (by cases h : Lib.trimS t.data.toList bl2 with | nil => exact absurd h hx | cons _ _ => rfl)
              clear hx
              have hrt := rtrim_any t wr (by have := HL.out.1; omega)
              generalize Lib.trimS t.data.toList bl2 = x at hrt HE HB
              have hb := HB.out
              go_wp2_with fail
              refine hrt.mono ?_
              rintro e w' ⟨rfl, rfl⟩
              go_wp2_with fail
              refine hrt.mono ?_
              rintro e w' ⟨rfl, rfl⟩
              have hdl := HL.out.2.1
              go_wp2_with (at_builtin; refine wpList_append_own _ rfl _ _ 29 rfl w.heap.size 9 i0 (.string ⟨#[]⟩) 1 16 Tryd.underlying29 HI.out.1 HI.out.2.1 HI.out.2.2.1 HI.out.2.2.2 rfl (by decide) (.slice A dn.length cp) dn.length (dn.map Value.string) rfl (World.ownsRow.alloc HO.out _) ⟨wr.heap.size, 0, none⟩ 1 1 [.string ⟨x.toArray⟩] rfl rfl (cell_one_new _ _ _) (by simp [Value.oneCell']) (by unfold maxLen; omega) (by omega) (by have := HC.out.size; simp; omega) ?_; intro v5 w5 hown hgrow _)
              have HC5 := Lib.hid (Chg.grownOwn (HC.out.alloc _) (World.ownsRow.alloc HO.out _) (Nat.le_refl _) hgrow)
              have HO5 := Lib.hid (OwnS.push hown)
              clear hown hgrow
              go_roundw
              case rel => exact ⟨k + 1, dn ++ [⟨x.toArray⟩], ⟨#[]⟩, _, _, by go_num, rfl, rfl, rfl, by omega, Lib.hid (by have h := (lflush_comma HL.out HCL.out (by have := H4.out; omega)); rw [HE.out] at h; exact h), HO5, HC5⟩
              case measure => simp [intOf]; omega
          · cases SK
            · skip
              skip
              go_wp2_with fail
              go_roundw
              case rel => exact ⟨k + 1, dn, _, true, false, by go_num, rfl, rfl, rfl, by omega, Lib.hid (lnext HL.out HCL.out (by have := H4.out; try simp; try omega) (by first | exact nq_skip _ _ | exact HNQ.out _) (by first | exact ns_skip _ _ | exact HNS.out _) HT'.out), HO, HC⟩
              case measure => simp [intOf]; omega
            · skip
              skip
              go_wp2_with fail
              go_roundw
              case rel => exact ⟨k + 1, dn, _, true, false, by go_num, rfl, rfl, rfl, by omega, Lib.hid (lnext HL.out HCL.out (by have := H4.out; try simp; try omega) (by first | exact nq_skip _ _ | exact HNQ.out _) (by first | exact ns_skip _ _ | exact HNS.out _) HT'.out), HO, HC⟩
              case measure => simp [intOf]; omega
        · have e1 : (((s[k]'hlt).toNat : Int) == 44) = false := beq_eq_false_iff_ne.2 h44
          have H4 := Lib.hid h44
          clear h44
          by_cases h92 : ((s[k]'hlt).toNat : Int) = 92
          · have e2 : (((s[k]'hlt).toNat : Int) == 92) = true := beq_iff_eq.2 h92
            have e3 : (((s[k]'hlt).toNat : Int) == 34) = false := beq_eq_false_iff_ne.2 (by omega)
            have HNQ := Lib.hid (fun q => nq_92 q (s[k]'hlt) (by omega))
            have HNS := Lib.hid (fun q => ns_92 q (s[k]'hlt) (by omega))
            clear h92
            cases Q
            · cases SK
              · skip
                skip
                go_wp2_with fail
                go_roundw
                case rel => exact ⟨k + 1, dn, _, false, false, by go_num, rfl, rfl, rfl, by omega, Lib.hid (lnext HL.out HCL.out (by have := H4.out; try simp; try omega) (by first | exact nq_skip _ _ | exact HNQ.out _) (by first | exact ns_skip _ _ | exact HNS.out _) HT'.out), HO, HC⟩
                case measure => simp [intOf]; omega
              · skip
                skip
                go_wp2_with fail
                go_roundw
                case rel => exact ⟨k + 1, dn, _, false, false, by go_num, rfl, rfl, rfl, by omega, Lib.hid (lnext HL.out HCL.out (by have := H4.out; try simp; try omega) (by first | exact nq_skip _ _ | exact HNQ.out _) (by first | exact ns_skip _ _ | exact HNS.out _) HT'.out), HO, HC⟩
                case measure => simp [intOf]; omega
            · cases SK
              · skip
                skip
                go_wp2_with fail
                go_roundw
                case rel => exact ⟨k + 1, dn, _, true, true, by go_num, rfl, rfl, rfl, by omega, Lib.hid (lnext HL.out HCL.out (by have := H4.out; try simp; try omega) (by first | exact nq_skip _ _ | exact HNQ.out _) (by first | exact ns_skip _ _ | exact HNS.out _) HT'.out), HO, HC⟩
                case measure => simp [intOf]; omega
              · skip
                skip
                go_wp2_with fail
                go_roundw
                case rel => exact ⟨k + 1, dn, _, true, false, by go_num, rfl, rfl, rfl, by omega, Lib.hid (lnext HL.out HCL.out (by have := H4.out; try simp; try omega) (by first | exact nq_skip _ _ | exact HNQ.out _) (by first | exact ns_skip _ _ | exact HNS.out _) HT'.out), HO, HC⟩
                case measure => simp [intOf]; omega
          · have e2 : (((s[k]'hlt).toNat : Int) == 92) = false := beq_eq_false_iff_ne.2 h92
            have HNS := Lib.hid (fun q => ns_other q (s[k]'hlt) (by omega))
            by_cases h34 : ((s[k]'hlt).toNat : Int) = 34
            · have e3 : (((s[k]'hlt).toNat : Int) == 34) = true := beq_iff_eq.2 h34
              have HNQ := Lib.hid (fun q => nq_34 q (s[k]'hlt) (by omega))
              clear h34 h92
              cases Q
              · cases SK
                · skip
                  skip
                  go_wp2_with fail
                  go_roundw
                  case rel => exact ⟨k + 1, dn, _, true, false, by go_num, rfl, rfl, rfl, by omega, Lib.hid (lnext HL.out HCL.out (by have := H4.out; try simp; try omega) (by first | exact nq_skip _ _ | exact HNQ.out _) (by first | exact ns_skip _ _ | exact HNS.out _) HT'.out), HO, HC⟩
                  case measure => simp [intOf]; omega
                · skip
                  skip
                  go_wp2_with fail
                  go_roundw
                  case rel => exact ⟨k + 1, dn, _, false, false, by go_num, rfl, rfl, rfl, by omega, Lib.hid (lnext HL.out HCL.out (by have := H4.out; try simp; try omega) (by first | exact nq_skip _ _ | exact HNQ.out _) (by first | exact ns_skip _ _ | exact HNS.out _) HT'.out), HO, HC⟩
                  case measure => simp [intOf]; omega
              · cases SK
                · skip
                  skip
                  go_wp2_with fail
                  go_roundw
                  case rel => exact ⟨k + 1, dn, _, false, false, by go_num, rfl, rfl, rfl, by omega, Lib.hid (lnext HL.out HCL.out (by have := H4.out; try simp; try omega) (by first | exact nq_skip _ _ | exact HNQ.out _) (by first | exact ns_skip _ _ | exact HNS.out _) HT'.out), HO, HC⟩
                  case measure => simp [intOf]; omega
                · skip
                  skip
                  go_wp2_with fail
                  go_roundw
                  case rel => exact ⟨k + 1, dn, _, true, false, by go_num, rfl, rfl, rfl, by omega, Lib.hid (lnext HL.out HCL.out (by have := H4.out; try simp; try omega) (by first | exact nq_skip _ _ | exact HNQ.out _) (by first | exact ns_skip _ _ | exact HNS.out _) HT'.out), HO, HC⟩
                  case measure => simp [intOf]; omega
            · have e3 : (((s[k]'hlt).toNat : Int) == 34) = false := beq_eq_false_iff_ne.2 h34
              have HNQ := Lib.hid (fun q => nq_other q (s[k]'hlt) (by omega) (by omega))
              clear h34 h92
              cases Q
              · cases SK
                · skip
                  skip
                  go_wp2_with fail
                  go_roundw
                  case rel => exact ⟨k + 1, dn, _, false, false, by go_num, rfl, rfl, rfl, by omega, Lib.hid (lnext HL.out HCL.out (by have := H4.out; try simp; try omega) (by first | exact nq_skip _ _ | exact HNQ.out _) (by first | exact ns_skip _ _ | exact HNS.out _) HT'.out), HO, HC⟩
                  case measure => simp [intOf]; omega
                · skip
                  skip
                  go_wp2_with fail
                  go_roundw
                  case rel => exact ⟨k + 1, dn, _, false, false, by go_num, rfl, rfl, rfl, by omega, Lib.hid (lnext HL.out HCL.out (by have := H4.out; try simp; try omega) (by first | exact nq_skip _ _ | exact HNQ.out _) (by first | exact ns_skip _ _ | exact HNS.out _) HT'.out), HO, HC⟩
                  case measure => simp [intOf]; omega
              · cases SK
                · skip
                  skip
                  go_wp2_with fail
                  go_roundw
                  case rel => exact ⟨k + 1, dn, _, true, false, by go_num, rfl, rfl, rfl, by omega, Lib.hid (lnext HL.out HCL.out (by have := H4.out; try simp; try omega) (by first | exact nq_skip _ _ | exact HNQ.out _) (by first | exact ns_skip _ _ | exact HNS.out _) HT'.out), HO, HC⟩
                  case measure => simp [intOf]; omega
                · skip
                  skip
                  go_wp2_with fail
                  go_roundw
                  case rel => exact ⟨k + 1, dn, _, true, false, by go_num, rfl, rfl, rfl, by omega, Lib.hid (lnext HL.out HCL.out (by have := H4.out; try simp; try omega) (by first | exact nq_skip _ _ | exact HNQ.out _) (by first | exact ns_skip _ _ | exact HNS.out _) HT'.out), HO, HC⟩
                  case measure => simp [intOf]; omega
    · have HE := Lib.hid (HL.out.2.2.2 (by rw [HSZ.out]; omega))
      go_wp2
      go_ret
      exact ⟨_, rfl, Lib.hid (by rw [← HE.out]; exact HO.out), HC.out⟩
end Go.Proofs.YtiimofejcakgoaaDoor
