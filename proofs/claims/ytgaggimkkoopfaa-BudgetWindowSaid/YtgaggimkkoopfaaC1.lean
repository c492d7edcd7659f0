/- A budget that the call owns, step by step; and the law's own small cases (speaks of layer 17). -/
import Derived.Test.YtgaggimkkoopfaaB6
namespace Go.Proofs.Ytgaggimkkoopfaa
open Go.RowKit
set_option linter.unusedVariables false

/-- A budget in memory that is newer than w0, of which nothing has changed. -/
def Live (b : Nat) (p m win last : Int) (rq rt : List Int) (w0 w : World) : Prop :=
  ∃ F, BSt w b p m win last rq rt F ∧ (∀ i, i ∈ F → w0.heap.size ≤ i) ∧ Chg [] w0 w
theorem live_told {b : Nat} {p m win last : Int} {rq rt : List Int} {F : List Nat} {v : Value} {w0 w w' : World} {e : Ending} (hF : ∀ i, i ∈ F → w0.heap.size ≤ i) (hb : b ∈ F) (hc : Chg [] w0 w) (h : Told b p m win last rq rt F v w e w') : e = .returned v ∧ Live b p m win last rq rt w0 w' := by
  obtain ⟨F', rfl, h1, h2, h3⟩ := h
  have hs := hc.size
  refine ⟨rfl, F', h1, fun i hi => ?_, hc.trans h2 (by intro i hi hlt; have := hF b hb; simp at hi; omega)⟩
  rcases h3 i hi with h | h
  · exact hF i h
  · omega
theorem live_bti {b : Nat} {p m win last : Int} {rq rt : List Int} {F : List Nat} {w0 w w' : World} (hF : ∀ i, i ∈ F → w0.heap.size ≤ i) (hb : b ∈ F) (hc : Chg [] w0 w) (h : BTi w' b p m win last rq rt F) (h2 : Chg [b] w w') : Live b p m win last rq rt w0 w' := by
  have hs := hc.size
  exact ⟨F, h.st, hF, hc.trans h2 (by intro i hi hlt; have := hF b hb; simp at hi; omega)⟩
theorem live_new (p m win : Int) (w : World) (h : 0 ≤ p ∧ p ≤ 100 ∧ 0 ≤ m ∧ m ≤ 1000 ∧ 1 ≤ win ∧ win ≤ 1000000) :
    Calls Try.prog 26 #[.int .i64 p, .int .i64 m, .int .i64 win] w fun e w' => e = .returned (.tuple #[.pointer (some ⟨w.heap.size, 0, none⟩), .int .i64 0]) ∧ Hid (Live w.heap.size p m win 0 [] [] w w') :=
  (bnew_ok p m win w h).mono fun e w' ⟨h1, h2, h3⟩ => ⟨h1, [w.heap.size], h2, by simp, h3⟩
theorem live_admit (b : Nat) (p m win last now L : Int) (rq rt rq' rt' : List Int) (w0 w : World) (h : Live b p m win last rq rt w0 w) (h0 : 0 ≤ last) (h1 : last ≤ 4611686018427387904) (n0 : 0 ≤ now) (n1 : now ≤ 4611686018427387904) (w00 : 0 ≤ win) (w1 : win ≤ 1000000) (hL : (L = now ∧ last < now) ∨ (L = last ∧ now ≤ last))
    (e1 : lateL rq (L - win) = rq') (e2 : lateL rt (L - win) = rt') (hn : rq'.length < 100000) :
    Calls Try.prog 30 #[.pointer (some ⟨b, 0, none⟩), .int .i64 now] w fun e w' => e = .returned (.int .i64 0) ∧ Hid (Live b p m win L (rq' ++ [L]) rt' w0 w') := by
  obtain ⟨F, h, hF, hc⟩ := h
  subst e1 e2
  exact (badmit_any b p m win last now L rq rt F w h h0 h1 n0 n1 w00 w1 hL hn).mono fun e w' hh => live_told hF h.mem hc hh
theorem live_allow_yes (b : Nat) (p m win last now L : Int) (rq rt rq' rt' : List Int) (w0 w : World) (h : Live b p m win last rq rt w0 w) (h0 : 0 ≤ last) (h1 : last ≤ 4611686018427387904) (n0 : 0 ≤ now) (n1 : now ≤ 4611686018427387904) (w00 : 0 ≤ win) (w1 : win ≤ 1000000) (hL : (L = now ∧ last < now) ∨ (L = last ∧ now ≤ last))
    (p0 : 0 ≤ p) (p1 : p ≤ 100) (e1 : lateL rq (L - win) = rq') (e2 : lateL rt (L - win) = rt') (hn : rq'.length ≤ 100000) (ht : rt'.length < 100000) (hy : canB p m rq'.length rt'.length = true) :
    Calls Try.prog 32 #[.pointer (some ⟨b, 0, none⟩), .int .i64 now] w fun e w' => e = .returned (.tuple #[.bool true, .int .i64 0]) ∧ Hid (Live b p m win L rq' (rt' ++ [L]) w0 w') := by
  obtain ⟨F, h, hF, hc⟩ := h
  subst e1 e2
  exact (ballow_yes b p m win last now L rq rt F w h h0 h1 n0 n1 w00 w1 hL p0 p1 hn ht hy).mono fun e w' hh => live_told hF h.mem hc hh
theorem live_allow_no (b : Nat) (p m win last now L : Int) (rq rt rq' rt' : List Int) (w0 w : World) (h : Live b p m win last rq rt w0 w) (h0 : 0 ≤ last) (h1 : last ≤ 4611686018427387904) (n0 : 0 ≤ now) (n1 : now ≤ 4611686018427387904) (w00 : 0 ≤ win) (w1 : win ≤ 1000000) (hL : (L = now ∧ last < now) ∨ (L = last ∧ now ≤ last))
    (p0 : 0 ≤ p) (p1 : p ≤ 100) (e1 : lateL rq (L - win) = rq') (e2 : lateL rt (L - win) = rt') (hn : rq'.length ≤ 100000) (hy : canB p m rq'.length rt'.length = false) :
    Calls Try.prog 32 #[.pointer (some ⟨b, 0, none⟩), .int .i64 now] w fun e w' => e = .returned (.tuple #[.bool false, .int .i64 0]) ∧ Hid (Live b p m win L rq' rt' w0 w') := by
  obtain ⟨F, h, hF, hc⟩ := h
  subst e1 e2
  exact (ballow_no b p m win last now L rq rt F w h h0 h1 n0 n1 w00 w1 hL p0 p1 hn hy).mono fun e w' hh => ⟨hh.1, live_bti hF h.mem hc hh.2.1 hh.2.2⟩
theorem live_late (b : Nat) (p m win last now L : Int) (rq rt rq' rt' : List Int) (w0 w : World) (h : Live b p m win last rq rt w0 w) (h0 : 0 ≤ last) (h1 : last ≤ 4611686018427387904) (n0 : 0 ≤ now) (n1 : now ≤ 4611686018427387904) (w00 : 0 ≤ win) (w1 : win ≤ 1000000) (hL : (L = now ∧ last < now) ∨ (L = last ∧ now ≤ last))
    (e1 : lateL rq (L - win) = rq') (e2 : lateL rt (L - win) = rt') :
    Calls Try.prog 34 #[.pointer (some ⟨b, 0, none⟩), .int .i64 now] w fun e w' => e = .returned (.tuple #[.int .i64 (rq'.length : Int), .int .i64 (rt'.length : Int), .int .i64 0]) ∧ Hid (Live b p m win L rq' rt' w0 w') := by
  obtain ⟨F, h, hF, hc⟩ := h
  subst e1 e2
  exact (blate_any b p m win last now L rq rt F w h h0 h1 n0 n1 w00 w1 hL).mono fun e w' hh => ⟨hh.1, live_bti hF h.mem hc hh.2.1 hh.2.2⟩
set_option maxHeartbeats 2000000 in
set_option maxRecDepth 100000 in
theorem bspeaks (w : World) : Calls Try.prog 25 #[] w fun e w' => e = .returned (.bool true) ∧ Below w.heap.size w w' := by
  go_enter Try.func25, Try.ntmps25
  go_wp2_with fail
  refine (live_new 50 1 10 w (by omega)).mono ?_
  rintro e w1 ⟨rfl, H1⟩
  go_wp2_with fail
  refine (live_allow_yes w.heap.size 50 1 10 0 0 0 [] [] [] [] w w1 H1.out (by omega) (by omega) (by omega) (by omega) (by omega) (by omega) (by omega) (by omega) (by omega) rfl rfl (by simp) (by simp) (by decide)).mono ?_
  rintro e w2 ⟨rfl, H2⟩
  go_wp2_with fail
  refine (live_allow_no w.heap.size 50 1 10 0 0 0 [] [0] [] [0] w w2 H2.out (by omega) (by omega) (by omega) (by omega) (by omega) (by omega) (by omega) (by omega) (by omega) rfl (by decide) (by simp) (by decide)).mono ?_
  rintro e w3 ⟨rfl, H3⟩
  go_wp2_with fail
  go_loopw [7] (fun i wr => ∃ (k : Nat), k ≤ 4 ∧ i = .int .i64 k ∧ Hid (∃ last : Int, 0 ≤ last ∧ last ≤ 1 ∧ (0 < k → last = 1) ∧ Live w.heap.size 50 1 10 last (List.replicate k 1) [0] w wr)) (fun i _ => 4 - (intOf i).toNat)
  case atStart => exact ⟨0, by omega, rfl, Lib.hid ⟨0, by omega, by omega, by omega, H3.out⟩⟩
  case round =>
    obtain ⟨k, hk, rfl, last, l0, l1, l2, HL⟩ := hrel
    have HL2 := Lib.hid HL
    have l3 := Lib.hid l2
    clear HL l2
    by_cases hlt : k < 4
    · have hk4 : (k : Int) < 4 := by omega
      go_wp2_with fail
      refine (live_admit w.heap.size 50 1 10 last 1 1 (List.replicate k 1) [0] (List.replicate k 1) [0] w wr HL2.out l0 (by omega) (by omega) (by omega) (by omega) (by omega) (by omega) ?_ (by decide) (by simp; omega)).mono ?_
      · cases k with
        | zero => rfl
        | succ k => simp [List.replicate_succ, lateL]
      rintro e w4 ⟨rfl, H4⟩
      go_wp2_with fail
      go_roundw
      case rel => exact ⟨k + 1, by omega, by go_num, Lib.hid ⟨1, by omega, by omega, fun _ => rfl, by rw [List.replicate_succ']; exact H4.out⟩⟩
      case measure => simp [intOf]; omega
    · obtain rfl : k = 4 := by omega
      obtain rfl : last = 1 := l3.out (by omega)
      go_wp2_with fail
      refine (live_allow_yes w.heap.size 50 1 10 1 1 1 _ _ (List.replicate 4 1) [0] w wr HL2.out (by omega) (by omega) (by omega) (by omega) (by omega) (by omega) (by omega) (by omega) (by omega) (by decide) (by decide) (by decide) (by decide) (by decide)).mono ?_
      rintro e w4 ⟨rfl, H4⟩
      go_wp2_with fail
      refine (live_allow_no w.heap.size 50 1 10 1 1 1 _ _ (List.replicate 4 1) [0, 1] w w4 H4.out (by omega) (by omega) (by omega) (by omega) (by omega) (by omega) (by omega) (by omega) (by omega) (by decide) (by decide) (by decide) (by decide)).mono ?_
      rintro e w5 ⟨rfl, H5⟩
      go_wp2_with fail
      refine (live_late w.heap.size 50 1 10 1 1 1 _ _ (List.replicate 4 1) [0, 1] w w5 H5.out (by omega) (by omega) (by omega) (by omega) (by omega) (by omega) (by omega) (by decide) (by decide)).mono ?_
      rintro e w6 ⟨rfl, H6⟩
      go_wp2_with fail
      go_ret
      obtain ⟨F, -, -, hc⟩ := H6.out
      exact ⟨rfl, hc.below⟩
end Go.Proofs.Ytgaggimkkoopfaa
