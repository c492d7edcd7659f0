/- A set of hosts: how many are ejected. -/
import Derived.Test.YteaepadamhmknaaH1
namespace Go.Proofs.Yteaepadamhmknaa
open Go.RowKit
set_option linter.unusedVariables false

theorem Hst.frame {T TH : Nat} {w w' : World} {b g : Nat} {fails base long share last : Int} {hs : List Ho} {F : List Nat} (h : Hst T TH w b g fails base long share last hs) (hc : Chg F w w') (hb : b ∉ F) (hg : g ∉ F) : Hst T TH w' b g fails base long share last hs :=
  ⟨h.num.chg hc hb, Blk.chg h.recs hc hg, h.ne⟩
theorem Hst.host {T TH : Nat} {w : World} {b g : Nat} {fails base long share last : Int} {hs : List Ho} (h : Hst T TH w b g fails base long share last hs) {k : Nat} {x : Ho} (hk : hs[k]? = some x) :
    w.cell? ⟨g, k * 5, none⟩ = some (.bool x.sick) ∧ w.cell? ⟨g, k * 5 + 1, none⟩ = some (.bool x.out) ∧ w.cell? ⟨g, k * 5 + 2, none⟩ = some (.int .i64 x.til) ∧ w.cell? ⟨g, k * 5 + 3, none⟩ = some (.int .i64 x.row) ∧ w.cell? ⟨g, k * 5 + 4, none⟩ = some (.int .i64 x.times) :=
  ⟨h.recs.cell Ho.len hk 0 _ (by omega) rfl, h.recs.cell Ho.len hk 1 _ (by omega) rfl, h.recs.cell Ho.len hk 2 _ (by omega) rfl, h.recs.cell Ho.len hk 3 _ (by omega) rfl, h.recs.cell Ho.len hk 4 _ (by omega) rfl⟩
/-- How many are ejected. -/
def nout (hs : List Ho) : Nat := (hs.filter Ho.out).length
theorem nout_snoc (hs : List Ho) (x : Ho) : nout (hs ++ [x]) = nout hs + if x.out = true then 1 else 0 := by
  unfold nout
  rw [List.filter_append, List.length_append]
  cases h : x.out <;> simp [h]
theorem nout_le (hs : List Ho) : nout hs ≤ hs.length := List.length_filter_le _ _
theorem take_snoc (hs : List Ho) (k : Nat) (x : Ho) (h : hs[k]? = some x) : hs.take (k + 1) = hs.take k ++ [x] := by
  rw [List.take_add_one, h]; rfl
theorem ejected_nil (w : World) : Calls Try.prog 17 #[.pointer none] w fun e w' => e = .returned (.int .i64 0) ∧ w = w' := by
  go_enter Try.func17, Try.ntmps17
  go_wp2
  go_ret
  exact ⟨rfl, rfl⟩
set_option maxHeartbeats 2000000 in
theorem ejected_any (b g : Nat) (fails base long share last : Int) (hs : List Ho) (w : World) (h : Hst 64 69 w b g fails base long share last hs) (hl : hs.length ≤ 16) :
    Calls Try.prog 17 #[.pointer (some ⟨b, 0, none⟩)] w fun e w' => e = .returned (.int .i64 (nout hs : Int)) ∧ Hid (Chg [] w w') := by
  have HH := Lib.hid h
  have c5 := h.num.cell 5 _ rfl
  clear h
  have hl2 : (hs.length : Int) ≤ 16 := by omega
  go_enter Try.func17, Try.ntmps17
  go_wp2
  go_loopw [3, 13] (fun n i wr => ∃ (k : Nat), k ≤ hs.length ∧ i = .int .i64 k ∧ n = .int .i64 ((nout (hs.take k) : Nat) : Int) ∧ Hid (Chg [] w wr)) (fun _ i _ => hs.length - (intOf i).toNat)
  case atStart => exact ⟨0, by omega, rfl, rfl, Chg.refl _ _⟩
  case round =>
    obtain ⟨k, hk, rfl, rfl, HC⟩ := hrel
    by_cases hlt : k < hs.length
    · obtain ⟨x, hx⟩ : ∃ x, hs[k]? = some x := ⟨_, List.getElem?_eq_getElem hlt⟩
      obtain ⟨d0, d1, d2, d3, d4⟩ := (HH.out.frame HC.out (by simp) (by simp)).host hx
      have HS := Lib.hid (show nout (hs.take (k + 1)) = nout (hs.take k) + if x.out = true then 1 else 0 by rw [take_snoc hs k x hx, nout_snoc])
      have hn := nout_le (hs.take k)
      have hn2 : (hs.take k).length ≤ k := List.length_take_le _ _
      have hn3 : (nout (hs.take k) : Int) ≤ 16 := by omega
      clear hn hn2 hx
      generalize nout (hs.take k) = c at *
      obtain ⟨sick, out, til, row, times⟩ := x
      dsimp only at d0 d1 d2 d3 d4 HS
      cases out
      · have HQ := Lib.hid (show nout (hs.take (k + 1)) = c by rw [HS.out]; rfl)
        go_wp2
        go_roundw
        case rel => exact ⟨k + 1, by omega, by go_num, by rw [HQ.out], HC.out.alloc _⟩
        case measure => simp [intOf]; omega
      · have HQ := Lib.hid (show nout (hs.take (k + 1)) = c + 1 by rw [HS.out]; rfl)
        go_wp2
        go_roundw
        case rel => exact ⟨k + 1, by omega, by go_num, by rw [HQ.out]; go_num, HC.out.alloc _⟩
        case measure => simp [intOf]; omega
    · have e : k = hs.length := by omega
      have HQ := Lib.hid (show hs.take k = hs by rw [e]; simp)
      go_wp2
      go_ret
      exact ⟨by rw [HQ.out]; rfl, HC.out⟩
set_option maxHeartbeats 2000000 in
theorem rejected_any (b g : Nat) (fails base long share last : Int) (hs : List Ho) (w : World) (h : Hst 73 79 w b g fails base long share last hs) (hl : hs.length ≤ 16) :
    Calls Try.prog 25 #[.pointer (some ⟨b, 0, none⟩)] w fun e w' => e = .returned (.int .i64 (nout hs : Int)) ∧ Hid (Chg [] w w') := by
  have HH := Lib.hid h
  have c5 := h.num.cell 5 _ rfl
  clear h
  have hl2 : (hs.length : Int) ≤ 16 := by omega
  go_enter Try.func25, Try.ntmps25
  go_wp2
  go_loopw [3, 11] (fun n i wr => ∃ (k : Nat), k ≤ hs.length ∧ i = .int .i64 k ∧ n = .int .i64 ((nout (hs.take k) : Nat) : Int) ∧ Hid (Chg [] w wr)) (fun _ i _ => hs.length - (intOf i).toNat)
  case atStart => exact ⟨0, by omega, rfl, rfl, Chg.refl _ _⟩
  case round =>
    obtain ⟨k, hk, rfl, rfl, HC⟩ := hrel
    by_cases hlt : k < hs.length
    · obtain ⟨x, hx⟩ : ∃ x, hs[k]? = some x := ⟨_, List.getElem?_eq_getElem hlt⟩
      obtain ⟨d0, d1, d2, d3, d4⟩ := (HH.out.frame HC.out (by simp) (by simp)).host hx
      have HS := Lib.hid (show nout (hs.take (k + 1)) = nout (hs.take k) + if x.out = true then 1 else 0 by rw [take_snoc hs k x hx, nout_snoc])
      have hn := nout_le (hs.take k)
      have hn2 : (hs.take k).length ≤ k := List.length_take_le _ _
      have hn3 : (nout (hs.take k) : Int) ≤ 16 := by omega
      clear hn hn2 hx
      generalize nout (hs.take k) = c at *
      obtain ⟨sick, out, til, row, times⟩ := x
      dsimp only at d0 d1 d2 d3 d4 HS
      cases out
      · have HQ := Lib.hid (show nout (hs.take (k + 1)) = c by rw [HS.out]; rfl)
        go_wp2
        go_roundw
        case rel => exact ⟨k + 1, by omega, by go_num, by rw [HQ.out], HC.out.alloc _⟩
        case measure => simp [intOf]; omega
      · have HQ := Lib.hid (show nout (hs.take (k + 1)) = c + 1 by rw [HS.out]; rfl)
        go_wp2
        go_roundw
        case rel => exact ⟨k + 1, by omega, by go_num, by rw [HQ.out]; go_num, HC.out.alloc _⟩
        case measure => simp [intOf]; omega
    · have e : k = hs.length := by omega
      have HQ := Lib.hid (show hs.take k = hs by rw [e]; simp)
      go_wp2
      go_ret
      exact ⟨by rw [HQ.out]; rfl, HC.out⟩
/-- Until when a host is ejected. -/
theorem until_nil (i : Int) (w : World) : Calls Try.prog 15 #[.pointer none, .int .i64 i] w fun e w' => e = .returned (.tuple #[.int .i64 0, .bool false]) ∧ w = w' := by
  go_enter Try.func15, Try.ntmps15
  go_wp2
  go_ret2
  exact ⟨rfl, rfl⟩
def untilV (hs : List Ho) (i : Int) : Int × Bool := if i < 0 then (0, false) else match hs[i.toNat]? with
  | some x => if x.out then (x.til, true) else (0, false)
  | none => (0, false)
set_option maxHeartbeats 2000000 in
theorem until_any (b g : Nat) (fails base long share last : Int) (hs : List Ho) (w : World) (h : Hst 64 69 w b g fails base long share last hs) (hl : hs.length ≤ 16) (i : Int) (x : Int) (y : Bool) (hx : untilV hs i = (x, y)) :
    Calls Try.prog 15 #[.pointer (some ⟨b, 0, none⟩), .int .i64 i] w fun e w' => e = .returned (.tuple #[.int .i64 x, .bool y]) ∧ w = w' := by
  have HH := Lib.hid h
  have c5 := h.num.cell 5 _ rfl
  clear h
  have hl2 : (hs.length : Int) ≤ 16 := by omega
  unfold untilV at hx
  by_cases k1 : i < 0
  · rw [if_pos k1] at hx
    injection hx with e1 e2
    subst e1 e2
    go_enter Try.func15, Try.ntmps15
    go_wp2
    go_ret2
    exact ⟨rfl, rfl⟩
  rw [if_neg k1] at hx
  obtain ⟨k, rfl⟩ : ∃ k : Nat, i = k := ⟨i.toNat, by omega⟩
  rw [Int.toNat_natCast] at hx
  by_cases k2 : k < hs.length
  · obtain ⟨z, hz⟩ : ∃ x, hs[k]? = some x := ⟨_, List.getElem?_eq_getElem k2⟩
    obtain ⟨d0, d1, d2, d3, d4⟩ := HH.out.host hz
    rw [hz] at hx
    clear hz
    obtain ⟨sick, out, til, row, times⟩ := z
    dsimp only at d0 d1 d2 d3 d4 hx
    have k3 : ¬ (hs.length : Int) ≤ (k : Int) := by omega
    cases out
    · rw [if_neg (by decide)] at hx
      injection hx with e1 e2
      subst e1 e2
      go_enter Try.func15, Try.ntmps15
      go_wp2
      go_ret2
      exact ⟨rfl, rfl⟩
    · rw [if_pos rfl] at hx
      injection hx with e1 e2
      subst e1 e2
      go_enter Try.func15, Try.ntmps15
      go_wp2
      go_ret2
      exact ⟨rfl, rfl⟩
  · rw [List.getElem?_eq_none (by omega)] at hx
    injection hx with e1 e2
    subst e1 e2
    have k3 : (hs.length : Int) ≤ (k : Int) := by omega
    go_enter Try.func15, Try.ntmps15
    go_wp2
    go_ret2
    exact ⟨rfl, rfl⟩
set_option maxHeartbeats 2000000 in
theorem runtil_any (b g : Nat) (fails base long share last : Int) (hs : List Ho) (w : World) (h : Hst 73 79 w b g fails base long share last hs) (hl : hs.length ≤ 16) (i : Int) (x : Int) (y : Bool) (hx : untilV hs i = (x, y)) :
    Calls Try.prog 24 #[.pointer (some ⟨b, 0, none⟩), .int .i64 i] w fun e w' => e = .returned (.tuple #[.int .i64 x, .bool y]) ∧ w = w' := by
  have HH := Lib.hid h
  have c5 := h.num.cell 5 _ rfl
  clear h
  have hl2 : (hs.length : Int) ≤ 16 := by omega
  unfold untilV at hx
  by_cases k1 : i < 0
  · rw [if_pos k1] at hx
    injection hx with e1 e2
    subst e1 e2
    go_enter Try.func24, Try.ntmps24
    go_wp2
    go_ret2
    exact ⟨rfl, rfl⟩
  rw [if_neg k1] at hx
  obtain ⟨k, rfl⟩ : ∃ k : Nat, i = k := ⟨i.toNat, by omega⟩
  rw [Int.toNat_natCast] at hx
  by_cases k2 : k < hs.length
  · obtain ⟨z, hz⟩ : ∃ x, hs[k]? = some x := ⟨_, List.getElem?_eq_getElem k2⟩
    obtain ⟨d0, d1, d2, d3, d4⟩ := HH.out.host hz
    rw [hz] at hx
    clear hz
    obtain ⟨sick, out, til, row, times⟩ := z
    dsimp only at d0 d1 d2 d3 d4 hx
    have k3 : ¬ (hs.length : Int) ≤ (k : Int) := by omega
    cases out
    · rw [if_neg (by decide)] at hx
      injection hx with e1 e2
      subst e1 e2
      go_enter Try.func24, Try.ntmps24
      go_wp2
      go_ret2
      exact ⟨rfl, rfl⟩
    · rw [if_pos rfl] at hx
      injection hx with e1 e2
      subst e1 e2
      go_enter Try.func24, Try.ntmps24
      go_wp2
      go_ret2
      exact ⟨rfl, rfl⟩
  · rw [List.getElem?_eq_none (by omega)] at hx
    injection hx with e1 e2
    subst e1 e2
    have k3 : (hs.length : Int) ≤ (k : Int) := by omega
    go_enter Try.func24, Try.ntmps24
    go_wp2
    go_ret2
    exact ⟨rfl, rfl⟩
end Go.Proofs.Yteaepadamhmknaa
