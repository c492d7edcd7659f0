/- A budget's methods: how many are of late, and a budget that is made. -/
import Derived.Test.YtgaggimkkoopfaaB2
import Derived.Deep.RegionLawGrows
namespace Go.Proofs.Ytgaggimkkoopfaa
open Go.RowKit
set_option linter.unusedVariables false

def LateP (b : Nat) (p m win last : Int) (rq rt : List Int) (F : List Nat) (w : World) (e : Ending) (w' : World) : Prop :=
  e = .returned (.tuple #[.int .i64 (rq.length : Int), .int .i64 (rt.length : Int), .int .i64 0]) ∧ BTi w' b p m win last rq rt F ∧ Chg [b] w w'
set_option maxHeartbeats 1000000 in
theorem blate_any (b : Nat) (p m win last now L : Int) (rq rt : List Int) (F : List Nat) (w : World) (h : BSt w b p m win last rq rt F) (h0 : 0 ≤ last) (h1 : last ≤ 4611686018427387904) (n0 : 0 ≤ now) (n1 : now ≤ 4611686018427387904) (w0 : 0 ≤ win) (w1 : win ≤ 1000000) (hL : (L = now ∧ last < now) ∨ (L = last ∧ now ≤ last)) :
    Calls Try.prog 34 #[.pointer (some ⟨b, 0, none⟩), .int .i64 now] w (LateP b p m win L (lateL rq (L - win)) (lateL rt (L - win)) F w) := by
  have K := Lib.hid (bring_any b p m win last now L rq rt F w h h0 h1 n0 n1 w0 w1 hL)
  clear h hL
  go_enter Try.func34, Try.ntmps34
  go_wp2_with (first | (go_at_call 16; (with_reducible refine (add_ok now 0 n0 n1 (by omega) (by omega) _).mono ?_); rintro e w' ⟨rfl, rfl⟩))
  refine K.out.mono ?_
  rintro e w2 ⟨rfl, hb, hc⟩
  have HC := Lib.hid hc
  have HB := Lib.hid hb
  obtain ⟨hm, hl, v1, v2, hblk, ⟨-, A1, rfl⟩, ⟨-, A2, rfl⟩⟩ := hb
  have c4 := hblk.cell 4 _ rfl
  have c5 := hblk.cell 5 _ rfl
  clear hc hblk hm hl K
  generalize lateL rq (L - win) = q at *
  generalize lateL rt (L - win) = t at *
  go_wp2_with fail
  go_quiet (fail)
  go_wp2
  go_ret3
  exact ⟨rfl, ⟨HB.out.mem, HB.out.lt, HB.out.blk⟩, HC.out.drewN _⟩
theorem blate_nil (now : Int) (n0 : 0 ≤ now) (n1 : now ≤ 4611686018427387904) (w : World) : Calls Try.prog 34 #[.pointer none, .int .i64 now] w fun e w' => e = .returned (.tuple #[.int .i64 0, .int .i64 0, .int .i64 0]) ∧ w = w' := by
  go_enter Try.func34, Try.ntmps34
  go_wp2_with (first | (go_at_call 16; (with_reducible refine (add_ok now 0 n0 n1 (by omega) (by omega) _).mono ?_); rintro e w' ⟨rfl, rfl⟩))
  go_ret3
  exact ⟨rfl, rfl⟩
theorem blate_bad (p : Option Addr) (now : Int) (hn : now < 0 ∨ 4611686018427387904 < now) (w : World) : Calls Try.prog 34 #[.pointer p, .int .i64 now] w fun e w' => e = .returned (.tuple #[.int .i64 0, .int .i64 0, .int .i64 1]) ∧ w = w' := by
  go_enter Try.func34, Try.ntmps34
  go_wp2_with (first | (go_at_call 16; (with_reducible refine (add_bad now 0 (by omega) _).mono ?_); rintro e w' ⟨rfl, rfl⟩))
  go_ret3
  exact ⟨rfl, rfl⟩
end Go.Proofs.Ytgaggimkkoopfaa
