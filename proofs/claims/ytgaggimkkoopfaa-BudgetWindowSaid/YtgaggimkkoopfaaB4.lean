/- A budget's methods: whether a retry could be let through, and what is told of a request or a retry. -/
import Derived.Test.YtgaggimkkoopfaaB3
namespace Go.Proofs.Ytgaggimkkoopfaa
open Go.RowKit
set_option linter.unusedVariables false

/-- Is there room for one retry more? -/
def canB (p m : Int) (n k : Nat) : Bool := decide ((k : Int) < m) || decide ((k : Int) < p * n / 100)
def CanP (b : Nat) (p m win last : Int) (rq rt : List Int) (F : List Nat) (w : World) (e : Ending) (w' : World) : Prop :=
  e = .returned (.tuple #[.bool (canB p m rq.length rt.length), .int .i64 0]) ∧ BTi w' b p m win last rq rt F ∧ Chg [b] w w'
set_option maxHeartbeats 1000000 in
theorem bcan_any (b : Nat) (p m win last now L : Int) (rq rt : List Int) (F : List Nat) (w : World) (h : BSt w b p m win last rq rt F) (h0 : 0 ≤ last) (h1 : last ≤ 4611686018427387904) (n0 : 0 ≤ now) (n1 : now ≤ 4611686018427387904) (w0 : 0 ≤ win) (w1 : win ≤ 1000000) (hL : (L = now ∧ last < now) ∨ (L = last ∧ now ≤ last))
    (p0 : 0 ≤ p) (p1 : p ≤ 100) (hn : (lateL rq (L - win)).length ≤ 100000) :
    Calls Try.prog 28 #[.pointer (some ⟨b, 0, none⟩), .int .i64 now] w (CanP b p m win L (lateL rq (L - win)) (lateL rt (L - win)) F w) := by
  have K := Lib.hid (blate_any b p m win last now L rq rt F w h h0 h1 n0 n1 w0 w1 hL)
  clear h hL
  generalize lateL rq (L - win) = q at *
  generalize lateL rt (L - win) = t at *
  have hp0 : 0 ≤ p * (q.length : Int) := Int.mul_nonneg p0 (by omega)
  have hp1 : p * (q.length : Int) ≤ 100 * 100000 := Int.mul_le_mul p1 (by omega) (by omega) (by omega)
  have hq0 : 0 ≤ p * (q.length : Int) / 100 := by omega
  go_enter Try.func28, Try.ntmps28
  go_wp2_with fail
  refine K.out.mono ?_
  rintro e w2 ⟨rfl, hb, hc⟩
  have HC := Lib.hid hc
  have HB := Lib.hid hb
  obtain ⟨hm, hl, v1, v2, hblk, -, -⟩ := hb
  have c0 := hblk.cell 0 _ rfl
  have c1 := hblk.cell 1 _ rfl
  clear hc hblk hm hl K
  go_wp2_with fail
  have hwr : IntKind.i64.wrap (p * (q.length : Int)) = p * (q.length : Int) := IntWalk.i64_in _ (by omega)
  by_cases hg : m < p * (q.length : Int) / 100
  · by_cases hh : (t.length : Int) < p * (q.length : Int) / 100
    all_goals
      go_quiet (fail)
      go_wp2
      go_ret2
      exact ⟨by simp [canB]; omega, ⟨HB.out.mem, HB.out.lt, HB.out.blk⟩, HC.out.drewN _⟩
  · by_cases hh : (t.length : Int) < m
    all_goals
      go_quiet (fail)
      go_wp2
      go_ret2
      exact ⟨by simp [canB]; omega, ⟨HB.out.mem, HB.out.lt, HB.out.blk⟩, HC.out.drewN _⟩
theorem bcan_nil (now : Int) (n0 : 0 ≤ now) (n1 : now ≤ 4611686018427387904) (w : World) : Calls Try.prog 28 #[.pointer none, .int .i64 now] w fun e w' => e = .returned (.tuple #[.bool false, .int .i64 0]) ∧ Chg [] w w' := by
  go_enter Try.func28, Try.ntmps28
  go_wp2_with (first | (go_at_call 34; (with_reducible refine (blate_nil now n0 n1 _).mono ?_); rintro e w' ⟨rfl, rfl⟩))
  go_quiet (fail)
  go_wp2
  go_ret2
  exact ⟨rfl, (Chg.refl _ _).drewN _⟩
theorem bcan_bad (p : Option Addr) (now : Int) (hn : now < 0 ∨ 4611686018427387904 < now) (w : World) : Calls Try.prog 28 #[.pointer p, .int .i64 now] w fun e w' => e = .returned (.tuple #[.bool false, .int .i64 1]) ∧ Chg [] w w' := by
  go_enter Try.func28, Try.ntmps28
  go_wp2_with (first | (go_at_call 34; (with_reducible refine (blate_bad p now hn _).mono ?_); rintro e w' ⟨rfl, rfl⟩))
  go_quiet (fail)
  go_wp2
  go_ret2
  exact ⟨rfl, (Chg.refl _ _).drewN _⟩
theorem info3 : (Try.prog.info? 3).map (fun i => (i.zero, i.size, i.bytes)) = some (some (.int .i64 0), 1, 8) := by kernel_rfl
theorem RoSl.olds {w : World} {Q : Nat → Prop} {A : Option Addr} {n cap : Nat} {zs : List Int} (h : RoSl w Q (.slice A n cap) zs) :
    (A = none → n = 0 ∧ cap = 0) ∧ (zs.map (Value.int .i64)).length = n * 1 ∧ ∀ b, A = some b → ∀ (j : Nat) (u : Value), (zs.map (Value.int .i64))[j]? = some u → w.cell? (b.add j) = some u := by
  obtain ⟨A', cap', e, h1, h2, h3, h4⟩ := h
  injection e with e1 e2 e3
  subst e1 e3 e2
  refine ⟨fun hn => ?_, by simp, fun b hb j u hu => ?_⟩
  · have := h3 hn
    omega
  · obtain ⟨hs, hc⟩ := h4 b hb
    have hj : j < zs.length := by
      have := (List.getElem?_eq_some_iff.1 hu).1
      simpa using this
    have hz : zs ≠ [] := by rintro rfl; simp at hj
    have := (hc hz).2 j hj
    obtain ⟨bb, bo, bs⟩ := b
    obtain rfl : bs = none := hs
    rw [Addr.add_lit, this]
    simp [List.getD_eq_getElem?_getD, hj] at hu ⊢
    exact hu
/-- A row of the call's own, read as such a slice. -/
theorem roSl_own {w : World} {base n : Nat} {v : Value} {zs : List Int} (Q : Nat → Prop) (h : w.ownsRow base 3 1 v n (zs.map (Value.int .i64))) (hn : zs.length = n) (hQ : ∀ g, v.ownBlock = some g → Q g) (hpos : 0 < n) :
    ∃ g cap, v = .slice (some ⟨g, 0, none⟩) n cap ∧ base ≤ g ∧ g < w.heap.size ∧ RoSl w Q v zs := by
  rcases h.2 with ⟨_, h0⟩ | ⟨g, cap, cur, rfl, hb, hh, h1, h2, h3, h4⟩
  · omega
  · refine ⟨g, cap, rfl, hb, lt_of_block hh, some ⟨g, 0, none⟩, cap, by rw [hn], by omega, by simp only [maxLen] at h2; omega, by simp, fun x hx => ?_⟩
    injection hx with hx
    subst hx
    refine ⟨rfl, fun _ => ⟨hQ g (by simp [Value.ownBlock]), fun i hi => ?_⟩⟩
    have hi' : (cur.toList.take (n * 1))[i]? = some (.int .i64 (zs.getD i 0)) := by
      rw [h4]
      simp [List.getD_eq_getElem?_getD, hi]
    rw [List.getElem?_take] at hi'
    split at hi'
    · simp only [World.cell?, hh, Nat.zero_add]
      simpa using hi'
    · cases hi'
end Go.Proofs.Ytgaggimkkoopfaa
