/- Layer 6: the law TargetSafe. -/
import Derived.Test.YtoinhenekeogiaaDoorTC
import Derived.Test.YtoinhenekeogiaaDoorTD
namespace Go.Proofs.YtoinhenekeogiaaDoor
open Go.RowKit Go.ChangeShapes Go.WideShapes
set_option linter.unusedVariables false

theorem httpG_tgt (a r : ByteArray) : ∃ f h p pa q b, (httpG a r).1 = tgt f h p pa q b := by
  unfold httpG
  split
  · exact ⟨_, _, _, _, _, _, rfl⟩
  · split <;> exact ⟨_, _, _, _, _, _, rfl⟩
theorem parse_tgt (m s : ByteArray) (v : Int) : ∃ f h p pa q b, (parseF m s v).1 = tgt f h p pa q b := by
  unfold parseF
  split
  · exact ⟨_, _, _, _, _, _, rfl⟩
  split
  · unfold connF
    split
    · exact ⟨_, _, _, _, _, _, rfl⟩
    · split <;> exact ⟨_, _, _, _, _, _, rfl⟩
  split
  · split <;> exact ⟨_, _, _, _, _, _, rfl⟩
  split
  · unfold slashF
    split <;> exact ⟨_, _, _, _, _, _, rfl⟩
  split
  · exact httpG_tgt _ _
  · exact ⟨_, _, _, _, _, _, rfl⟩
set_option maxHeartbeats 4000000 in
set_option maxRecDepth 100000 in
theorem safe_any (m s : ByteArray) (w : World) (hs : s.size ≤ 1048576) (hE : Hid (Env w)) :
    Calls Tryd.prog 4 #[.string m, .string s] w fun e w' => e = .returned (.bool true) ∧ Hid (Chg [] w w') := by
  have hz3 : (s.size : Int) ≤ 1048576 := by omega
  go_enter Tryd.func4, Tryd.ntmps4
  go_wp2_with fail
  refine (parse_any m s _ hE).mono ?_
  rintro o w1 ⟨⟨v, hv, rfl⟩, H1⟩
  have HSAFE := Lib.hid (fun h => parse_safe (m := m) hv h)
  obtain ⟨f, h, p, pa, q, b, ht⟩ := parse_tgt m s v
  rw [ht]
  generalize (parseF m s v).2 = e at *
  clear hv ht
  have HC := Lib.hid (H1.out.alloc (.cells (tgt f h p pa q b).toArray 30))
  unfold tgt at HC ⊢
  by_cases he : e = 0
  · subst he
    have HA := Lib.hid (HSAFE.out rfl)
    go_wp2_with fail
    generalize w1.alloc _ = w2 at HC ⊢
    go_loopw [7] (fun i wr => ∃ k : Nat, k ≤ s.size ∧ i = .int .i64 k ∧ wr = w2) (fun i _ => s.size - (intOf i).toNat)
    case atStart => exact ⟨0, by omega, rfl, rfl⟩
    case round =>
      obtain ⟨k, hk, rfl, rfl⟩ := hrel
      by_cases hlt : k < s.size
      · have hlt2 : (k : Int) < (s.size : Int) := by omega
        have hcl := toList_get s k hlt
        obtain ⟨c, hc⟩ : ∃ c, s[k]'hlt = c := ⟨_, rfl⟩
        rw [hc] at hcl
        obtain ⟨q1, q2⟩ := HA.out c (List.mem_of_getElem? hcl)
        have q3 : ¬ (c.toNat : Int) < 33 := by omega
        have q4 : ¬ (126 : Int) < (c.toNat : Int) := by omega
        clear hcl
        go_wp2
        go_roundw
        case rel => exact ⟨k + 1, by omega, by go_num, by first | rfl | trivial⟩
        case measure => simp [intOf]; omega
      · obtain rfl : k = s.size := by omega
        go_wp2_with fail
        refine (speaks_any _ (Lib.hid (hE.out.chg HC.out))).mono ?_
        rintro o w3 ⟨rfl, H3⟩
        go_wp2
        go_ret
        exact ⟨rfl, HC.out.trans H3.out (by simp)⟩
  · go_wp2_with fail
    generalize w1.alloc _ = w2 at HC ⊢
    refine (speaks_any _ (Lib.hid (hE.out.chg HC.out))).mono ?_
    rintro o w3 ⟨rfl, H3⟩
    go_wp2
    go_ret
    exact ⟨rfl, HC.out.trans H3.out (by simp)⟩
end Go.Proofs.YtoinhenekeogiaaDoor
