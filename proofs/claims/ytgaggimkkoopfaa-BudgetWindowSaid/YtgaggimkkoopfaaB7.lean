/- The reference's budget: its state in memory, and how many moments are of late. -/
import Derived.Test.YtgaggimkkoopfaaB5
namespace Go.Proofs.Ytgaggimkkoopfaa
open Go.RowKit
set_option linter.unusedVariables false

/-- A row of the call's own that holds zs, in a block of Q. -/
def RoW (w : World) (Q : Nat → Prop) (v : Value) (zs : List Int) : Prop := w.ownsRow 0 3 1 v zs.length (zs.map (Value.int .i64)) ∧ ∀ g, v.ownBlock = some g → Q g
theorem RoW.slot {w : World} {Q : Nat → Prop} {v : Value} {zs : List Int} (h : RoW w Q v zs) : (∃ A cap, v = .slice A zs.length cap) ∧ RoSl w Q v zs := by
  obtain ⟨h, hQ⟩ := h
  rcases h.2 with ⟨rfl, h0⟩ | ⟨g, cap, cur, rfl, hb, hh, h1, h2, h3, h4⟩
  · have : zs = [] := List.eq_nil_of_length_eq_zero h0
    subst this
    exact ⟨⟨none, 0, rfl⟩, ⟨none, 0, rfl, by simp, by simp, by simp, by simp⟩⟩
  · refine ⟨⟨_, cap, rfl⟩, some ⟨g, 0, none⟩, cap, rfl, h1, by simp only [maxLen] at h2; omega, by simp, fun x hx => ?_⟩
    injection hx with hx
    subst hx
    refine ⟨rfl, fun _ => ⟨hQ g (by simp [Value.ownBlock]), fun i hi => ?_⟩⟩
    have hi' : (cur.toList.take (zs.length * 1))[i]? = some (.int .i64 (zs.getD i 0)) := by
      rw [h4]
      simp [List.getD_eq_getElem?_getD, hi]
    rw [List.getElem?_take] at hi'
    split at hi'
    · simp only [World.cell?, hh, Nat.zero_add]
      simpa using hi'
    · cases hi'
theorem RoW.kept {w w' : World} {Q : Nat → Prop} {v : Value} {zs : List Int} (h : RoW w Q v zs) (hk : ∀ i, Q i → i < w.heap.size → w'.heap[i]? = w.heap[i]?) : RoW w' Q v zs := by
  obtain ⟨h, hQ⟩ := h
  refine ⟨⟨h.1, ?_⟩, hQ⟩
  rcases h.2 with h2 | ⟨g, cap, cur, rfl, hb, hh, r⟩
  · exact .inl h2
  · exact .inr ⟨g, cap, cur, rfl, hb, by rw [hk g (hQ g (by simp [Value.ownBlock])) (lt_of_block hh)]; exact hh, r⟩
theorem RoW.mono {w : World} {Q Q' : Nat → Prop} {v : Value} {zs : List Int} (h : RoW w Q v zs) (hq : ∀ i, Q i → Q' i) : RoW w Q' v zs := ⟨h.1, fun g hg => hq g (h.2 g hg)⟩
structure RSt (w : World) (b : Nat) (p m win last : Int) (rq rt : List Int) (F : List Nat) : Prop where
  mem : b ∈ F
  lt : ∀ i, i ∈ F → i < w.heap.size
  blk : ∃ v1 v2, Blk w b [.int .i64 p, .int .i64 m, .int .i64 win, .int .i64 last, v1, v2] 70 ∧ RoW w (fun i => i ∈ F ∧ i ≠ b) v1 rq ∧ RoW w (fun i => i ∈ F ∧ i ≠ b) v2 rt ∧ (v1.ownBlock = none ∨ v1.ownBlock ≠ v2.ownBlock)
theorem RSt.frame {w w' : World} {b : Nat} {p m win last : Int} {rq rt : List Int} {F F' : List Nat} (h : RSt w b p m win last rq rt F) (hc : Chg F' w w') (hd : ∀ i, i ∈ F → i ∉ F') : RSt w' b p m win last rq rt F := by
  obtain ⟨h1, h2, v1, v2, h3, h4, h5, h6⟩ := h
  exact ⟨h1, fun i hi => Nat.lt_of_lt_of_le (h2 i hi) hc.size, v1, v2, h3.chg hc (hd b h1), h4.kept (fun i hi hl => hc.block i hl (hd i hi.1)), h5.kept (fun i hi hl => hc.block i hl (hd i hi.1)), h6⟩
/-- How many of a list are later than fr. -/
def cnt (zs : List Int) (fr : Int) : Nat := (zs.filter (fun t => decide (fr < t))).length
theorem cnt_le (zs : List Int) (fr : Int) : cnt zs fr ≤ zs.length := List.length_filter_le _ _
theorem cnt_snoc (zs : List Int) (t fr : Int) : cnt (zs ++ [t]) fr = cnt zs fr + if fr < t then 1 else 0 := by
  unfold cnt
  by_cases h : fr < t <;> simp [List.filter_append, h]
theorem takeS (zs : List Int) (k : Nat) (h : k < zs.length) : zs.take (k + 1) = zs.take k ++ [zs.getD k 0] := by
  rw [List.take_succ_eq_append_getElem h]
  simp [List.getD_eq_getElem?_getD, h]
def CntP (n : Nat) (w : World) (e : Ending) (w' : World) : Prop := e = .returned (.int .i64 (n : Int)) ∧ ∃ m, w' = w.drewN m
set_option maxHeartbeats 2000000 in
theorem count_any (b : Nat) (win last : Int) (v : Value) (zs : List Int) (Q : Nat → Prop) (w : World) (h : RoSl w Q v zs) (c2 : w.cell? ⟨b, 2, none⟩ = some (.int .i64 win)) (c3 : w.cell? ⟨b, 3, none⟩ = some (.int .i64 last))
    (h0 : 0 ≤ last) (h1 : last ≤ 4611686018427387904) (w0 : 0 ≤ win) (w1 : win ≤ 1000000) :
    Calls Try.prog 40 #[.pointer (some ⟨b, 0, none⟩), v] w (CntP (cnt zs (last - win)) w) := by
  obtain ⟨A, cap, rfl, g1, g2, g3, g4⟩ := h
  have H4 := Lib.hid g4
  have H3 := Lib.hid g3
  have hzl : zs.length ≤ 9223372036854775807 := by omega
  clear g4 g3
  go_enter Try.func40, Try.ntmps40
  go_wp2
  go_loopw [5, 10] (fun n i wr => ∃ (k : Nat), k ≤ zs.length ∧ i = .int .i64 k ∧ n = .int .i64 ((cnt (zs.take k) (last - win) : Nat) : Int) ∧ Hid (∃ q, wr = w.drewN q)) (fun _ i _ => zs.length - (intOf i).toNat)
  case atStart => exact ⟨0, by omega, rfl, rfl, Lib.hid ⟨0, rfl⟩⟩
  case round =>
    obtain ⟨k, hk, rfl, rfl, ⟨q, rfl⟩⟩ := hrel
    have hcl := cnt_le (zs.take k) (last - win)
    have hcl2 : (zs.take k).length ≤ k := List.length_take_le _ _
    have hcb : cnt (zs.take k) (last - win) < 9223372036854775807 ∨ k = zs.length := by omega
    by_cases hlt : k < zs.length
    · obtain ⟨x, rfl⟩ : ∃ x, A = some x := by
        cases A with
        | none => have := H3.out rfl; omega
        | some x => exact ⟨x, rfl⟩
      obtain ⟨g, o, sp⟩ := x
      obtain ⟨hs, hc⟩ := H4.out _ rfl
      obtain rfl : sp = none := hs
      have hcell := (hc (by intro e; subst e; simp at hlt)).2 k hlt
      dsimp only at hcell
      clear hc
      have HS := Lib.hid (show cnt (zs.take (k + 1)) (last - win) = cnt (zs.take k) (last - win) + if last - win < zs.getD k 0 then 1 else 0 by rw [takeS zs k hlt, cnt_snoc])
      have hcb2 : cnt (zs.take k) (last - win) < 9223372036854775807 := by omega
      clear hcb hcl hcl2
      generalize cnt (zs.take k) (last - win) = c at *
      generalize zs.getD k 0 = t at *
      have hwr : IntKind.i64.wrap (last - win) = last - win := IntWalk.i64_in _ (by omega)
      by_cases ht : last - win < t
      · have HQ := Lib.hid (show cnt (zs.take (k + 1)) (last - win) = c + 1 by rw [HS.out, if_pos ht])
        clear HS
        go_wp2
        go_quiet (fail)
        go_wp2
        go_roundw
        case rel => exact ⟨k + 1, by omega, by go_num, by rw [HQ.out]; go_num, Lib.hid ⟨q + nq, rfl⟩⟩
        case measure => simp [intOf]; omega
      · have HQ := Lib.hid (show cnt (zs.take (k + 1)) (last - win) = c by rw [HS.out, if_neg ht]; rfl)
        clear HS
        go_wp2
        go_quiet (fail)
        go_wp2
        go_roundw
        case rel => exact ⟨k + 1, by omega, by go_num, by rw [HQ.out], Lib.hid ⟨q + nq, rfl⟩⟩
        case measure => simp [intOf]; omega
    · have e : k = zs.length := by omega
      have HQ := Lib.hid (show zs.take k = zs by rw [e]; simp)
      clear hcl hcl2 hcb
      go_wp2
      go_ret
      exact ⟨by rw [HQ.out]; rfl, q, rfl⟩
end Go.Proofs.Ytgaggimkkoopfaa
