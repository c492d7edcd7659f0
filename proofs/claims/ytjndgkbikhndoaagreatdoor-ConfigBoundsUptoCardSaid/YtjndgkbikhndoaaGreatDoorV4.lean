/- Layer 13 (config), the program: twice; what a list of numbers, or of texts, holds. -/
import Derived.Test.YtjndgkbikhndoaaGreatDoorV0
import Derived.Test.YtjndgkbikhndoaaGreatDoorSh
namespace Go.Proofs.YtjndgkbikhndoaaGreatDoor
open Go.RowKit Go.ChangeShapes Go.WideShapes
set_option linter.unusedVariables false

theorem nodup_next {α : Type} {l : List α} {k : Nat} {x : α} (h : (l.take k).Nodup) (hx : l[k]? = some x) (hn : x ∉ l.take k) : (l.take (k + 1)).Nodup := by
  rw [List.take_add_one, hx, List.nodup_append]
  exact ⟨h, by simp, fun a ha b hb e => hn (by simp at hb; rw [← hb, ← e]; exact ha)⟩
theorem nodup_hit {α : Type} {l : List α} {k : Nat} {x : α} (hx : l[k]? = some x) (hn : x ∈ l.take k) : ¬ l.Nodup := by
  intro h
  have h2 : (l.take (k + 1)).Nodup := h.sublist (List.take_sublist _ _)
  rw [List.take_add_one, hx, List.nodup_append] at h2
  exact h2.2.2 x hn x (by simp) rfl
set_option maxRecDepth 100000 in
theorem cut40 (b o n cap k : Nat) (hk : k ≤ cap) (W : World) : (Instr.slice 40 (.slice (some ⟨b, o, none⟩) n cap) none (some (.int .i64 (k : Int))) none).run Tryz.prog W = .ok (.slice (some ⟨b, o, none⟩) k cap) W := by
  rw [run_slice_h (P := Tryz.prog) W 40 _ n cap Tryz.underlying40 .i64 (k : Int) (by omega) (by omega), Int.toNat_natCast]
  go_simp
set_option maxRecDepth 100000 in
theorem cut22 (b o n cap k : Nat) (hk : k ≤ cap) (W : World) : (Instr.slice 22 (.slice (some ⟨b, o, none⟩) n cap) none (some (.int .i64 (k : Int))) none).run Tryz.prog W = .ok (.slice (some ⟨b, o, none⟩) k cap) W := by
  rw [run_slice_h (P := Tryz.prog) W 22 _ n cap Tryz.underlying22 .i64 (k : Int) (by omega) (by omega), Int.toNat_natCast]
  go_simp
theorem getD_int {zs : List Int} {j : Nat} (hj : j < zs.length) : zs.getD j 0 = zs[j] := by rw [List.getD_eq_getElem?_getD, List.getElem?_eq_getElem hj]; rfl
theorem getD_str {zs : List ByteArray} {j : Nat} (hj : j < zs.length) : zs.getD j ByteArray.empty = zs[j] := by rw [List.getD_eq_getElem?_getD, List.getElem?_eq_getElem hj]; rfl
theorem has_int (zs : List Int) (x : Int) : zs.contains x = true ↔ x ∈ zs := List.contains_iff_mem
set_option maxHeartbeats 8000000 in
set_option maxRecDepth 100000 in
theorem twiceI_any (v : Value) (zs : List Int) (w : World) (ht : Hid (Tbl w v 1 (intRows zs))) (hl : zs.length ≤ 1048576) :
    Calls Tryz.prog 64 #[v] w fun e w' => e = .returned (.bool (!decide zs.Nodup)) ∧ w' = w := by
  have hlen : (intRows zs).length = zs.length := by unfold intRows; rw [List.length_map]
  obtain ⟨A, cap, rfl⟩ := ht.out.form
  rw [hlen] at ht ⊢
  have hcap := ht.out.cap
  have HLen := Lib.hid hlen
  clear hlen
  go_enter Tryz.func64, Tryz.ntmps64
  go_wp2
  go_loopw [7] (fun i wr => ∃ k : Nat, i = .int .i64 k ∧ k ≤ zs.length ∧ Hid ((zs.take k).Nodup) ∧ wr = w) (fun i _ => zs.length - (intOf i).toNat)
  case atStart => exact ⟨0, rfl, by omega, Lib.hid (by simp), rfl⟩
  case round =>
    obtain ⟨k, rfl, hk, HN, rfl⟩ := hrel
    by_cases hlt : k < zs.length
    · obtain ⟨b, o, rfl, hbs, hx⟩ := ht.out.at1 (by rw [HLen.out]; omega)
      obtain ⟨x, hxk⟩ : ∃ x, zs[k]? = some x := ⟨_, List.getElem?_eq_getElem hlt⟩
      have c1 := hx k _ (by unfold intRows; rw [List.getElem?_map, hxk]; rfl)
      have hsl := cut40 b o zs.length cap k (by omega)
      have HC := Lib.hid (Tryz.slices_Contains_int b o k cap zs x wr (by omega) (by omega) (fun j hj => hx j _ (by unfold intRows; rw [List.getElem?_map, List.getElem?_eq_getElem hj, (getD_int hj)]; rfl)))
      have HX := Lib.hid hxk
      clear hx hxk
      by_cases hin : x ∈ zs.take k
      · have hct : (zs.take k).contains x = true := (has_int (zs.take k) x).2 hin
        rw [hct] at HC
        have HR := Lib.hid (show decide zs.Nodup = false from decide_eq_false (nodup_hit HX.out hin))
        clear hin hct
        go_wp2_with (go_at_call 91; (with_reducible refine HC.out.mono ?_); rintro e w' ⟨rfl, rfl⟩)
        go_ret
        exact ⟨by rw [HR.out]; rfl, rfl⟩
      · have hct : (zs.take k).contains x = false := Bool.eq_false_iff.2 (fun h => hin ((has_int (zs.take k) x).1 h))
        rw [hct] at HC
        have HN2 := Lib.hid (nodup_next HN.out HX.out hin)
        clear hin hct
        go_wp2_with (go_at_call 91; (with_reducible refine HC.out.mono ?_); rintro e w' ⟨rfl, rfl⟩)
        go_roundw
        case rel => exact ⟨k + 1, by go_num, by omega, HN2, by first | rfl | trivial⟩
        case measure => simp [intOf]; omega
    · obtain rfl : k = zs.length := by omega
      have HR := Lib.hid (show decide zs.Nodup = true from decide_eq_true (by have := HN.out; rwa [List.take_length] at this))
      go_wp2
      go_ret
      exact ⟨by rw [HR.out]; rfl, rfl⟩
set_option maxHeartbeats 8000000 in
set_option maxRecDepth 100000 in
theorem twiceS_any (v : Value) (zs : List ByteArray) (w : World) (ht : Hid (Tbl w v 1 (strRows zs))) (hl : zs.length ≤ 1048576) :
    Calls Tryz.prog 35 #[v] w fun e w' => e = .returned (.bool (!decide zs.Nodup)) ∧ w' = w := by
  have hlen : (strRows zs).length = zs.length := by unfold strRows; rw [List.length_map]
  obtain ⟨A, cap, rfl⟩ := ht.out.form
  rw [hlen] at ht ⊢
  have hcap := ht.out.cap
  have HLen := Lib.hid hlen
  clear hlen
  go_enter Tryz.func35, Tryz.ntmps35
  go_wp2
  go_loopw [7] (fun i wr => ∃ k : Nat, i = .int .i64 k ∧ k ≤ zs.length ∧ Hid ((zs.take k).Nodup) ∧ wr = w) (fun i _ => zs.length - (intOf i).toNat)
  case atStart => exact ⟨0, rfl, by omega, Lib.hid (by simp), rfl⟩
  case round =>
    obtain ⟨k, rfl, hk, HN, rfl⟩ := hrel
    by_cases hlt : k < zs.length
    · obtain ⟨b, o, rfl, hbs, hx⟩ := ht.out.at1 (by rw [HLen.out]; omega)
      obtain ⟨x, hxk⟩ : ∃ x, zs[k]? = some x := ⟨_, List.getElem?_eq_getElem hlt⟩
      have c1 := hx k _ (by unfold strRows; rw [List.getElem?_map, hxk]; rfl)
      have hsl := cut22 b o zs.length cap k (by omega)
      have HC := Lib.hid (Tryz.slices_Contains_string b o k cap zs x wr (by omega) (by omega) (fun j hj => hx j _ (by unfold strRows; rw [List.getElem?_map, List.getElem?_eq_getElem hj, (getD_str hj)]; rfl)))
      have HX := Lib.hid hxk
      clear hx hxk
      by_cases hin : x ∈ zs.take k
      · have hct : Lib.containsS (zs.take k) x = true := (Lib.containsS_iff (zs.take k) x).2 hin
        rw [hct] at HC
        have HR := Lib.hid (show decide zs.Nodup = false from decide_eq_false (nodup_hit HX.out hin))
        clear hin hct
        go_wp2_with (go_at_call 26; (with_reducible refine HC.out.mono ?_); rintro e w' ⟨rfl, rfl⟩)
        go_ret
        exact ⟨by rw [HR.out]; rfl, rfl⟩
      · have hct : Lib.containsS (zs.take k) x = false := Bool.eq_false_iff.2 (fun h => hin ((Lib.containsS_iff (zs.take k) x).1 h))
        rw [hct] at HC
        have HN2 := Lib.hid (nodup_next HN.out HX.out hin)
        clear hin hct
        go_wp2_with (go_at_call 26; (with_reducible refine HC.out.mono ?_); rintro e w' ⟨rfl, rfl⟩)
        go_roundw
        case rel => exact ⟨k + 1, by go_num, by omega, HN2, by first | rfl | trivial⟩
        case measure => simp [intOf]; omega
    · obtain rfl : k = zs.length := by omega
      have HR := Lib.hid (show decide zs.Nodup = true from decide_eq_true (by have := HN.out; rwa [List.take_length] at this))
      go_wp2
      go_ret
      exact ⟨by rw [HR.out]; rfl, rfl⟩
end Go.Proofs.YtjndgkbikhndoaaGreatDoor
