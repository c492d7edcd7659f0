/- Layer 5 (bytes): the reference's Lower. -/
import Derived.Test.YtjndgkbikhndoaaGreatDoorU1
import Derived.Maps.AppendAt
import Derived.Deep.RegionHeld3
import Derived.Deep.DeepCutAuto
namespace Go.Proofs.YtjndgkbikhndoaaGreatDoor
open Go.RowKit Go.ChangeShapes Go.WideShapes
set_option linter.unusedVariables false

/-- A slice of bytes that the call makes itself. -/
def Own8 (w : World) (v : Value) (l : List UInt8) : Prop := w.ownsRow 0 5 1 v l.length (u8s l)
theorem Own8.nil (w : World) : Own8 w (.slice none 0 0) [] := World.ownsRow_nil _ _ _ _
theorem Own8.form {w : World} {v : Value} {l : List UInt8} (h : Own8 w v l) : ∃ A cap, v = .slice A l.length cap := by
  rcases h.2 with ⟨rfl, h0⟩ | ⟨g, cap, cur, rfl, _⟩
  · exact ⟨none, 0, by rw [h0]⟩
  · exact ⟨_, cap, rfl⟩
theorem own8_push {w : World} {v : Value} {l : List UInt8} {c : UInt8} (h : w.ownsRow 0 5 1 v (l.length + 1) (u8s l ++ [.int .u8 (c.toNat : Int)])) : Own8 w v (l ++ [c]) := by
  unfold Own8 u8s
  unfold u8s at h
  simpa using h
theorem Own8.cell {w : World} {v : Value} {l : List UInt8} (h : Own8 w v l) (hl : 0 < l.length) : ∃ g cap, v = .slice (some ⟨g, 0, none⟩) l.length cap ∧ ∀ j (hj : j < l.length), w.cell? ⟨g, j, none⟩ = some (.int .u8 (l[j].toNat : Int)) := by
  rcases h.2 with ⟨rfl, h0⟩ | ⟨g, cap, cur, rfl, hb, hh, h1, h2, h3, h4⟩
  · omega
  · refine ⟨g, cap, rfl, fun j hj => ?_⟩
    have hi' : (cur.toList.take (l.length * 1))[j]? = some (.int .u8 (l[j].toNat : Int)) := by
      rw [h4]
      unfold u8s
      rw [List.getElem?_map, List.getElem?_eq_getElem hj]
      rfl
    rw [List.getElem?_take] at hi'
    split at hi'
    · simp only [World.cell?, hh]
      simpa using hi'
    · cases hi'
theorem info5 : (Tryz.prog.info? 5).map (fun i => (i.zero, i.size, i.bytes)) = some (some (.int .u8 0), 1, 1) := by kernel_rfl
set_option maxHeartbeats 4000000 in
set_option maxRecDepth 100000 in
theorem rlower_any (s : ByteArray) (w : World) (hs : s.size ≤ 1048576) :
    Calls Tryz.prog 107 #[.string s] w fun e w' => e = .returned (.string ⟨(s.data.toList.map lowB).toArray⟩) ∧ Hid (Chg [] w w') := by
  have HSZ := Lib.hid (show s.size = s.data.toList.length by
    show s.data.size = _
    rw [Array.length_toList])
  obtain ⟨i0, hi, hz0, hz1, hz2⟩ := info_parts info5
  have HI := Lib.hid (And.intro hi (And.intro hz0 (And.intro hz1 hz2)))
  have hz3 : (s.size : Int) ≤ 1048576 := by omega
  clear hi hz0 hz1 hz2
  go_enter Tryz.func107, Tryz.ntmps107
  go_wp2
  go_loopw [3, 4] (fun v i wr => ∃ k : Nat, k ≤ s.size ∧ i = .int .i64 k ∧ Hid (Own8 wr v ((s.data.toList.take k).map lowB)) ∧ Hid (∀ q, v.ownBlock = some q → w.heap.size ≤ q) ∧ Hid (Chg [] w wr)) (fun _ i _ => s.size - (intOf i).toNat)
  case atStart => exact ⟨0, by omega, rfl, Own8.nil _, Lib.hid (by simp [Value.ownBlock]), Chg.refl _ _⟩
  case round =>
    obtain ⟨k, hk, rfl, HO, HF, HC⟩ := hrel
    by_cases hlt : k < s.size
    · have hlt2 : (k : Int) < (s.size : Int) := by omega
      go_upto_region 6 with fail
      have hcl : s.data.toList[k]? = some (s[k]'hlt) := by
        rw [List.getElem?_eq_getElem (by rw [← HSZ.out]; exact hlt)]
        rfl
      generalize s[k]'hlt = c at hcl ⊢
      have htk : (s.data.toList.take (k + 1)).map lowB = (s.data.toList.take k).map lowB ++ [lowB c] := by
        rw [List.take_add_one, hcl, List.map_append]
        rfl
      have HTK := Lib.hid htk
      have hlen : ((s.data.toList.take k).map lowB).length ≤ 1048576 := by
        rw [List.length_map, List.length_take]
        omega
      have hb : (c.toNat : Int) ≤ 255 := by have := c.toNat_lt; omega
      have hb0 : (0 : Int) ≤ (c.toNat : Int) := by omega
      have hx : (65 ≤ c.toNat ∧ c.toNat ≤ 90 ∧ ((lowB c).toNat : Int) = (c.toNat : Int) - 65 + 97) ∨ (¬ (65 : Int) ≤ (c.toNat : Int) ∧ lowB c = c) ∨ ((65 : Int) ≤ (c.toNat : Int) ∧ ¬ (c.toNat : Int) ≤ 90 ∧ lowB c = c) := by
        by_cases h1 : 65 ≤ c.toNat ∧ c.toNat ≤ 90
        · refine .inl ⟨h1.1, h1.2, ?_⟩
          unfold lowB
          rw [if_pos h1, UInt8.toNat_add]
          have : (32 : UInt8).toNat = 32 := rfl
          rw [this]
          omega
        · have : lowB c = c := by unfold lowB; rw [if_neg h1]
          by_cases h2 : (65 : Int) ≤ (c.toNat : Int)
          · exact .inr (.inr ⟨h2, by omega, this⟩)
          · exact .inr (.inl ⟨h2, this⟩)
      clear hcl htk
      obtain ⟨A, cp, rfl⟩ := HO.out.form
      rcases hx with ⟨h1, h2, h3⟩ | ⟨h1, h3⟩ | ⟨h1, h2, h3⟩
      · have a1 : (65 : Int) ≤ (c.toNat : Int) := by omega
        have a2 : (c.toNat : Int) ≤ 90 := by omega
        have HL := Lib.hid h3
        clear h1 h2 h3
        generalize (c.toNat : Int) = x at *
        go_wp2_with (at_builtin; refine wpList_append_own_at _ rfl _ _ 100 rfl 0 5 i0 (.int .u8 0) 1 1 Tryz.underlying100 HI.out.1 HI.out.2.1 HI.out.2.2.1 HI.out.2.2.2 rfl (by decide) (.slice A ((s.data.toList.take k).map lowB).length cp) ((s.data.toList.take k).map lowB).length (u8s ((s.data.toList.take k).map lowB)) rfl (HO.out.alloc _) ⟨wr.heap.size, 0, none⟩ 1 1 [.int .u8 (x - 65 + 97)] rfl rfl (cell_one_new _ _ _) (by simp [Value.oneCell']) (by unfold maxLen; omega) (by omega) (Nat.zero_le _) ?_; intro v5 w5 hown hgrow _ hat)
        have hc5 : Chg (Value.slice A ((s.data.toList.take k).map lowB).length cp).ownBlock.toList wr w5 := ((Chg.refl _ wr).alloc _).grown hgrow (by intro i hi _; rw [hi]; simp)
        have hsz : (wr.alloc (.cells #[.int .u8 (x - 65 + 97)] 5)).heap.size = wr.heap.size + 1 := by simp
        have s4 := HC.out.size
        have HF5 := Lib.hid (show ∀ q, v5.ownBlock = some q → w.heap.size ≤ q from by
          intro q hq
          rcases hat with hat | hat
          · exact HF.out q (by rw [← hat]; exact hq)
          · rw [hq] at hat
            injection hat with hat
            omega)
        have HC5 := Lib.hid (HC.out.trans hc5 (fun i hi hlt => by have := HF.out i (Option.mem_toList.1 hi); omega))
        have HO5 := Lib.hid (own8_push (c := lowB c) (by rw [HL.out]; exact hown))
        clear hown hgrow hat hc5 hsz s4
        go_roundw
        case rel => exact ⟨k + 1, by omega, by go_num, by rw [HTK.out]; exact HO5, HF5, HC5⟩
        case measure => simp [intOf]; omega
      · have HL := Lib.hid (show ((lowB c).toNat : Int) = (c.toNat : Int) by rw [h3])
        clear h3
        generalize (c.toNat : Int) = x at *
        go_wp2_with (at_builtin; refine wpList_append_own_at _ rfl _ _ 100 rfl 0 5 i0 (.int .u8 0) 1 1 Tryz.underlying100 HI.out.1 HI.out.2.1 HI.out.2.2.1 HI.out.2.2.2 rfl (by decide) (.slice A ((s.data.toList.take k).map lowB).length cp) ((s.data.toList.take k).map lowB).length (u8s ((s.data.toList.take k).map lowB)) rfl (HO.out.alloc _) ⟨wr.heap.size, 0, none⟩ 1 1 [.int .u8 x] rfl rfl (cell_one_new _ _ _) (by simp [Value.oneCell']) (by unfold maxLen; omega) (by omega) (Nat.zero_le _) ?_; intro v5 w5 hown hgrow _ hat)
        have hc5 : Chg (Value.slice A ((s.data.toList.take k).map lowB).length cp).ownBlock.toList wr w5 := ((Chg.refl _ wr).alloc _).grown hgrow (by intro i hi _; rw [hi]; simp)
        have hsz : (wr.alloc (.cells #[.int .u8 x] 5)).heap.size = wr.heap.size + 1 := by simp
        have s4 := HC.out.size
        have HF5 := Lib.hid (show ∀ q, v5.ownBlock = some q → w.heap.size ≤ q from by
          intro q hq
          rcases hat with hat | hat
          · exact HF.out q (by rw [← hat]; exact hq)
          · rw [hq] at hat
            injection hat with hat
            omega)
        have HC5 := Lib.hid (HC.out.trans hc5 (fun i hi hlt => by have := HF.out i (Option.mem_toList.1 hi); omega))
        have HO5 := Lib.hid (own8_push (c := lowB c) (by rw [HL.out]; exact hown))
        clear hown hgrow hat hc5 hsz s4
        go_roundw
        case rel => exact ⟨k + 1, by omega, by go_num, by rw [HTK.out]; exact HO5, HF5, HC5⟩
        case measure => simp [intOf]; omega
      · have HL := Lib.hid (show ((lowB c).toNat : Int) = (c.toNat : Int) by rw [h3])
        clear h3
        generalize (c.toNat : Int) = x at *
        go_wp2_with (at_builtin; refine wpList_append_own_at _ rfl _ _ 100 rfl 0 5 i0 (.int .u8 0) 1 1 Tryz.underlying100 HI.out.1 HI.out.2.1 HI.out.2.2.1 HI.out.2.2.2 rfl (by decide) (.slice A ((s.data.toList.take k).map lowB).length cp) ((s.data.toList.take k).map lowB).length (u8s ((s.data.toList.take k).map lowB)) rfl (HO.out.alloc _) ⟨wr.heap.size, 0, none⟩ 1 1 [.int .u8 x] rfl rfl (cell_one_new _ _ _) (by simp [Value.oneCell']) (by unfold maxLen; omega) (by omega) (Nat.zero_le _) ?_; intro v5 w5 hown hgrow _ hat)
        have hc5 : Chg (Value.slice A ((s.data.toList.take k).map lowB).length cp).ownBlock.toList wr w5 := ((Chg.refl _ wr).alloc _).grown hgrow (by intro i hi _; rw [hi]; simp)
        have hsz : (wr.alloc (.cells #[.int .u8 x] 5)).heap.size = wr.heap.size + 1 := by simp
        have s4 := HC.out.size
        have HF5 := Lib.hid (show ∀ q, v5.ownBlock = some q → w.heap.size ≤ q from by
          intro q hq
          rcases hat with hat | hat
          · exact HF.out q (by rw [← hat]; exact hq)
          · rw [hq] at hat
            injection hat with hat
            omega)
        have HC5 := Lib.hid (HC.out.trans hc5 (fun i hi hlt => by have := HF.out i (Option.mem_toList.1 hi); omega))
        have HO5 := Lib.hid (own8_push (c := lowB c) (by rw [HL.out]; exact hown))
        clear hown hgrow hat hc5 hsz s4
        go_roundw
        case rel => exact ⟨k + 1, by omega, by go_num, by rw [HTK.out]; exact HO5, HF5, HC5⟩
        case measure => simp [intOf]; omega
    · have e : k = s.size := by omega
      have E1 : s.data.toList.take k = s.data.toList := by rw [e, HSZ.out, List.take_length]
      rw [E1] at HO
      by_cases h0 : s.size = 0
      · have hl0 : s.data.toList = [] := by
          have := HSZ.out
          exact List.eq_nil_of_length_eq_zero (by omega)
        have HL0 := Lib.hid hl0
        rw [hl0] at HO
        rcases HO.out.2 with ⟨rfl, h1⟩ | ⟨g, cap, cur, rfl, -⟩
        · have hnone : (convert 100 9 (.slice none 0 0)).run Tryz.prog wr = .ok (.string ⟨#[]⟩) wr := by
            rw [run_convert_bytes_string wr 100 9 5 none 0 0 Tryz.underlying100 Tryz.underlying5 Tryz.underlying9]
            first
            | rfl
            | (unfold Conv.bytesToString; rfl)
            | (unfold Conv.bytesToString; simp; done)
            | (unfold Conv.bytesToString; simp; rfl)
          clear hl0 h1
          go_wp2
          go_ret
          exact ⟨by rw [HL0.out]; rfl, HC.out⟩
        · have hback := run_convert_bytes_back (P := Tryz.prog) wr 100 9 5 ⟨g, 0, none⟩ cap [] Tryz.underlying100 Tryz.underlying5 Tryz.underlying9 (fun j hj => absurd hj (by simp))
          rw [List.length_nil] at hback
          clear hl0
          simp only [List.map_nil, List.length_nil]
          go_wp2
          go_ret
          exact ⟨by rw [HL0.out]; rfl, HC.out⟩
      · obtain ⟨g, cap, rfl, hc⟩ := HO.out.cell (by rw [List.length_map, ← HSZ.out]; omega)
        have hback := run_convert_bytes_back (P := Tryz.prog) wr 100 9 5 ⟨g, 0, none⟩ cap (s.data.toList.map lowB) Tryz.underlying100 Tryz.underlying5 Tryz.underlying9 (fun j hj => by
          rw [show (⟨g, 0, none⟩ : Addr).add j = ⟨g, j, none⟩ by unfold Addr.add; split <;> simp [*]]
          exact hc j hj)
        rw [List.length_map, ← HSZ.out] at hback ⊢
        clear hc
        go_wp2
        go_ret
        exact ⟨rfl, HC.out⟩
end Go.Proofs.YtjndgkbikhndoaaGreatDoor
