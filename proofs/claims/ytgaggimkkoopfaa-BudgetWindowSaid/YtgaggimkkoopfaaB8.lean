/- The reference's budget: its methods. -/
import Derived.Test.YtgaggimkkoopfaaB7
namespace Go.Proofs.Ytgaggimkkoopfaa
open Go.RowKit
set_option linter.unusedVariables false

def RLateP (b : Nat) (p m win last : Int) (rq rt : List Int) (F : List Nat) (w : World) (e : Ending) (w' : World) : Prop :=
  e = .returned (.tuple #[.int .i64 ((cnt rq (last - win) : Nat) : Int), .int .i64 ((cnt rt (last - win) : Nat) : Int), .int .i64 0]) ∧ RSt w' b p m win last rq rt F ∧ Chg [b] w w'
set_option maxHeartbeats 2000000 in
theorem rlate_any (b : Nat) (p m win last now L : Int) (rq rt : List Int) (F : List Nat) (w : World) (h : RSt w b p m win last rq rt F) (h0 : 0 ≤ last) (h1 : last ≤ 4611686018427387904) (n0 : 0 ≤ now) (n1 : now ≤ 4611686018427387904) (w0 : 0 ≤ win) (w1 : win ≤ 1000000) (hL : (L = now ∧ last < now) ∨ (L = last ∧ now ≤ last)) :
    Calls Try.prog 35 #[.pointer (some ⟨b, 0, none⟩), .int .i64 now] w (RLateP b p m win L rq rt F w) := by
  have L0 : 0 ≤ L := by omega
  have L1 : L ≤ 4611686018427387904 := by omega
  have key : ∀ (w2 : World), RSt w2 b p m win L rq rt F → ∃ v1 v2 : Value, (w2.cell? ⟨b, 4, none⟩ = some v1 ∧ w2.cell? ⟨b, 5, none⟩ = some v2) ∧
      (∀ n, Calls Try.prog 40 #[.pointer (some ⟨b, 0, none⟩), v1] (w2.drewN n) fun e w' => e = .returned (.int .i64 ((cnt rq (L - win) : Nat) : Int)) ∧ ∃ m, w' = (w2.drewN n).drewN m) ∧
      (∀ n, Calls Try.prog 40 #[.pointer (some ⟨b, 0, none⟩), v2] (w2.drewN n) fun e w' => e = .returned (.int .i64 ((cnt rt (L - win) : Nat) : Int)) ∧ ∃ m, w' = (w2.drewN n).drewN m) := by
    intro w2 hr
    obtain ⟨hm, hl, v1, v2, hb, hr1, hr2, hne⟩ := hr
    refine ⟨v1, v2, ⟨hb.cell 4 _ rfl, hb.cell 5 _ rfl⟩, fun n => ?_, fun n => ?_⟩
    · exact count_any b win L v1 rq _ (w2.drewN n) (hr1.slot.2.kept (fun _ _ _ => rfl)) (hb.cell 2 _ rfl) (hb.cell 3 _ rfl) L0 L1 w0 w1
    · exact count_any b win L v2 rt _ (w2.drewN n) (hr2.slot.2.kept (fun _ _ _ => rfl)) (hb.cell 2 _ rfl) (hb.cell 3 _ rfl) L0 L1 w0 w1
  rcases hL with ⟨rfl, hlt⟩ | ⟨rfl, hlt⟩
  · obtain ⟨hm, hl, v1, v2, hb, hr1, hr2, hne⟩ := h
    have c3 := hb.cell 3 _ rfl
    have f3 := hb.free 3
    have hr' : RSt (w.setCell ⟨b, 3, none⟩ (.int .i64 L)) b p m win L rq rt F :=
      ⟨hm, fun i hi => by simpa using hl i hi, v1, v2, hb.set 3 _, hr1.kept (fun i hi _ => Below.heap_setCell _ _ _ _ (by simpa using hi.2)), hr2.kept (fun i hi _ => Below.heap_setCell _ _ _ _ (by simpa using hi.2)), hne⟩
    have HC := Lib.hid ((Chg.refl [b] w).setCell (p := ⟨b, 3, none⟩) (by simp) (.int .i64 L))
    have HR := Lib.hid hr'
    obtain ⟨v1, v2, ⟨d4, d5⟩, k1, k2⟩ := key _ hr'
    have K1 := Lib.hid k1
    have K2 := Lib.hid k2
    clear k1 k2 hr' key hb hr1 hr2 hne hl
    go_enter Try.func35, Try.ntmps35
    go_wp2_with (first | (go_at_call 22; (with_reducible refine (rmoment_yes _ n0 n1 _).mono ?_); rintro e w' ⟨rfl, rfl⟩))
    go_quiet (first
      | (go_at_call 40; with_reducible exact Calls.quiet_of (K1.out _))
      | (go_at_call 40; with_reducible exact Calls.quiet_of (K2.out _)))
    go_wp2
    go_ret3
    exact ⟨rfl, ⟨HR.out.mem, HR.out.lt, HR.out.blk⟩, HC.out.drewN _⟩
  · have HR := Lib.hid h
    obtain ⟨v1, v2, ⟨d4, d5⟩, k1, k2⟩ := key _ h
    obtain ⟨hm, hl, _, _, hb, _⟩ := h
    have c3 := hb.cell 3 _ rfl
    have K1 := Lib.hid k1
    have K2 := Lib.hid k2
    clear k1 k2 key hb hl
    go_enter Try.func35, Try.ntmps35
    go_wp2_with (first | (go_at_call 22; (with_reducible refine (rmoment_yes _ n0 n1 _).mono ?_); rintro e w' ⟨rfl, rfl⟩))
    go_quiet (first
      | (go_at_call 40; with_reducible exact Calls.quiet_of (K1.out _))
      | (go_at_call 40; with_reducible exact Calls.quiet_of (K2.out _)))
    go_wp2
    go_ret3
    exact ⟨rfl, ⟨HR.out.mem, HR.out.lt, HR.out.blk⟩, (Chg.refl _ _).drewN _⟩
theorem rlate_bad (p : Option Addr) (now : Int) (hn : now < 0 ∨ 4611686018427387904 < now) (w : World) : Calls Try.prog 35 #[.pointer p, .int .i64 now] w fun e w' => e = .returned (.tuple #[.int .i64 0, .int .i64 0, .int .i64 1]) ∧ w = w' := by
  go_enter Try.func35, Try.ntmps35
  go_wp2_with (first | (go_at_call 22; (with_reducible refine (rmoment_no _ hn _).mono ?_); rintro e w' ⟨rfl, rfl⟩))
  go_ret3
  exact ⟨rfl, rfl⟩
/-- Is there room for one retry more? (the reference) -/
def rcanB (p m : Int) (n k : Nat) : Bool := decide ((k : Int) + 1 ≤ m) || decide (((k : Int) + 1) * 100 ≤ p * n)
def RCanP (b : Nat) (p m win last : Int) (rq rt : List Int) (F : List Nat) (w : World) (e : Ending) (w' : World) : Prop :=
  e = .returned (.tuple #[.bool (rcanB p m (cnt rq (last - win)) (cnt rt (last - win))), .int .i64 0]) ∧ RSt w' b p m win last rq rt F ∧ Chg [b] w w'
set_option maxHeartbeats 1000000 in
theorem rcan_any (b : Nat) (p m win last now L : Int) (rq rt : List Int) (F : List Nat) (w : World) (h : RSt w b p m win last rq rt F) (h0 : 0 ≤ last) (h1 : last ≤ 4611686018427387904) (n0 : 0 ≤ now) (n1 : now ≤ 4611686018427387904) (w0 : 0 ≤ win) (w1 : win ≤ 1000000) (hL : (L = now ∧ last < now) ∨ (L = last ∧ now ≤ last))
    (p0 : 0 ≤ p) (p1 : p ≤ 100) (hn : rq.length ≤ 100000) (ht : rt.length ≤ 100000) :
    Calls Try.prog 29 #[.pointer (some ⟨b, 0, none⟩), .int .i64 now] w (RCanP b p m win L rq rt F w) := by
  have K := Lib.hid (rlate_any b p m win last now L rq rt F w h h0 h1 n0 n1 w0 w1 hL)
  have g1 := cnt_le rq (L - win)
  have g2 := cnt_le rt (L - win)
  clear h hL
  unfold RCanP
  unfold RLateP at K
  generalize cnt rq (L - win) = q at *
  generalize cnt rt (L - win) = t at *
  have hp0 : 0 ≤ p * (q : Int) := Int.mul_nonneg p0 (by omega)
  have hp1 : p * (q : Int) ≤ 100 * 100000 := Int.mul_le_mul p1 (by omega) (by omega) (by omega)
  go_enter Try.func29, Try.ntmps29
  go_wp2_with fail
  refine K.out.mono ?_
  rintro e w2 ⟨rfl, hb, hc⟩
  have HC := Lib.hid hc
  have HB := Lib.hid hb
  obtain ⟨hm, hl, v1, v2, hblk, -⟩ := hb
  have c0 := hblk.cell 0 _ rfl
  have c1 := hblk.cell 1 _ rfl
  clear hc hblk hm hl K
  by_cases hg : (t : Int) + 1 ≤ m
  · go_wp2_with fail
    go_ret2
    exact ⟨by simp [rcanB, hg], HB.out, HC.out⟩
  · by_cases hh : ((t : Int) + 1) * 100 ≤ p * (q : Int)
    all_goals
      go_wp2_with fail
      go_ret2
      exact ⟨by first | (simp [rcanB]; done) | (simp [rcanB]; omega), HB.out, HC.out⟩
theorem rcan_bad (p : Option Addr) (now : Int) (hn : now < 0 ∨ 4611686018427387904 < now) (w : World) : Calls Try.prog 29 #[.pointer p, .int .i64 now] w fun e w' => e = .returned (.tuple #[.bool false, .int .i64 1]) ∧ w = w' := by
  go_enter Try.func29, Try.ntmps29
  go_wp2_with (first | (go_at_call 35; (with_reducible refine (rlate_bad p now hn _).mono ?_); rintro e w' ⟨rfl, rfl⟩))
  go_ret2
  exact ⟨rfl, rfl⟩
theorem rnew_ok (p m win : Int) (w : World) (h : 0 ≤ p ∧ p ≤ 100 ∧ 0 ≤ m ∧ m ≤ 1000 ∧ 1 ≤ win ∧ win ≤ 1000000) :
    Calls Try.prog 27 #[.int .i64 p, .int .i64 m, .int .i64 win] w fun e w' => e = .returned (.tuple #[.pointer (some ⟨w.heap.size, 0, none⟩), .int .i64 0]) ∧ RSt w' w.heap.size p m win 0 [] [] [w.heap.size] ∧ Chg [] w w' := by
  obtain ⟨g1, g2, g3, g4, g5, g6⟩ := h
  go_enter Try.func27, Try.ntmps27
  go_wp2
  go_ret2
  refine ⟨rfl, ⟨by simp, by simp, _, _, Blk.new w [.int .i64 p, .int .i64 m, .int .i64 win, .int .i64 0, .slice none 0 0, .slice none 0 0] 70, ⟨World.ownsRow_nil _ _ _ _, by simp [Value.ownBlock]⟩, ⟨World.ownsRow_nil _ _ _ _, by simp [Value.ownBlock]⟩, .inl rfl⟩, (Chg.refl _ _).alloc _⟩
theorem rnew_bad (p m win : Int) (w : World) (h : ¬ (0 ≤ p ∧ p ≤ 100 ∧ 0 ≤ m ∧ m ≤ 1000 ∧ 1 ≤ win ∧ win ≤ 1000000)) :
    Calls Try.prog 27 #[.int .i64 p, .int .i64 m, .int .i64 win] w fun e w' => e = .returned (.tuple #[.pointer none, .int .i64 1]) ∧ w = w' := by
  by_cases g1 : p < 0
  · clear h
    go_enter Try.func27, Try.ntmps27
    go_wp2
    go_ret2
    exact ⟨rfl, rfl⟩
  by_cases g2 : 100 < p
  · clear h
    go_enter Try.func27, Try.ntmps27
    go_wp2
    go_ret2
    exact ⟨rfl, rfl⟩
  by_cases g3 : m < 0
  · clear h
    go_enter Try.func27, Try.ntmps27
    go_wp2
    go_ret2
    exact ⟨rfl, rfl⟩
  by_cases g4 : 1000 < m
  · clear h
    go_enter Try.func27, Try.ntmps27
    go_wp2
    go_ret2
    exact ⟨rfl, rfl⟩
  by_cases g5 : win < 1
  · clear h
    go_enter Try.func27, Try.ntmps27
    go_wp2
    go_ret2
    exact ⟨rfl, rfl⟩
  have g6 : 1000000 < win := by omega
  clear h
  go_enter Try.func27, Try.ntmps27
  go_wp2
  go_ret2
  exact ⟨rfl, rfl⟩
end Go.Proofs.Ytgaggimkkoopfaa
