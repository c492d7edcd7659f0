/- Two budgets side by side, the program's and the reference's, in memory of the call's own: what each call does to both. -/
import Derived.Test.YtgaggimkkoopfaaC2
namespace Go.Proofs.Ytgaggimkkoopfaa
open Go.RowKit
set_option linter.unusedVariables false

/-- A step that moves a budget of the program: what it hands back, and the budget behind it. -/
def MovB (b : Nat) (p m win l : Int) (rq rt : List Int) (F : List Nat) (v : Value) (w : World) (e : Ending) (w' : World) : Prop :=
  e = .returned v ∧ ∃ F', BSt w' b p m win l rq rt F' ∧ Chg F w w' ∧ ∀ i, i ∈ F' → i ∈ F ∨ w.heap.size ≤ i
def MovR (b : Nat) (p m win l : Int) (rq rt : List Int) (F : List Nat) (v : Value) (w : World) (e : Ending) (w' : World) : Prop :=
  e = .returned v ∧ ∃ F', RSt w' b p m win l rq rt F' ∧ Chg F w w' ∧ ∀ i, i ∈ F' → i ∈ F ∨ w.heap.size ≤ i
/-- The program's budget at b1, the reference's at b2, and a step's box at sb; all newer than w0, of which nothing has changed. -/
def Two (w0 : World) (b1 b2 sb : Nat) (p m win : Int) (kd nw : Int) (l1 : Int) (rq rt : List Int) (l2 : Int) (RQ RT : List Int) (w : World) : Prop :=
  ∃ F1 F2, BSt w b1 p m win l1 rq rt F1 ∧ RSt w b2 p m win l2 RQ RT F2 ∧ Blk w sb [.int .i64 kd, .int .i64 nw] 51 ∧ (∀ i, i ∈ F1 → i ∉ F2) ∧ (∀ i, i ∈ F1 → w0.heap.size ≤ i) ∧ (∀ i, i ∈ F2 → w0.heap.size ≤ i) ∧ sb ∉ F1 ∧ sb ∉ F2 ∧ Chg [] w0 w
theorem Two.box {w0 w : World} {b1 b2 sb : Nat} {p m win kd nw l1 l2 : Int} {rq rt RQ RT : List Int} (h : Two w0 b1 b2 sb p m win kd nw l1 rq rt l2 RQ RT w) : Blk w sb [.int .i64 kd, .int .i64 nw] 51 := by
  obtain ⟨F1, F2, h1, h2, h3, h4⟩ := h
  exact h3
theorem Two.chg {w0 w : World} {b1 b2 sb : Nat} {p m win kd nw l1 l2 : Int} {rq rt RQ RT : List Int} (h : Two w0 b1 b2 sb p m win kd nw l1 rq rt l2 RQ RT w) : Chg [] w0 w := by
  obtain ⟨F1, F2, h1, h2, h3, h4, h5, h6, h7, h8, h9⟩ := h
  exact h9
theorem Two.still {w0 w w' : World} {b1 b2 sb : Nat} {p m win kd nw l1 l2 : Int} {rq rt RQ RT : List Int} (h : Two w0 b1 b2 sb p m win kd nw l1 rq rt l2 RQ RT w) (hc : Chg [] w w') : Two w0 b1 b2 sb p m win kd nw l1 rq rt l2 RQ RT w' := by
  obtain ⟨F1, F2, h1, h2, h3, h4, h5, h6, h7, h8, h9⟩ := h
  exact ⟨F1, F2, h1.frame hc (by simp), h2.frame hc (by simp), h3.chg hc (by simp), h4, h5, h6, h7, h8, h9.trans hc (by simp)⟩
theorem two_impl {w0 w : World} {b1 b2 sb : Nat} {p m win kd nw l1 l2 l1' : Int} {rq rt RQ RT rq' rt' : List Int} {k : Nat} {args : Array Value} {v : Value} (h : Two w0 b1 b2 sb p m win kd nw l1 rq rt l2 RQ RT w)
    (K : ∀ F, BSt w b1 p m win l1 rq rt F → Calls Try.prog k args w (MovB b1 p m win l1' rq' rt' F v w)) :
    Calls Try.prog k args w fun e w' => e = .returned v ∧ Hid (Two w0 b1 b2 sb p m win kd nw l1' rq' rt' l2 RQ RT w') := by
  obtain ⟨F1, F2, h1, h2, h3, h4, h5, h6, h7, h8, h9⟩ := h
  refine (K F1 h1).mono fun e w' ⟨he, F', g1, g2, g3⟩ => ⟨he, F', F2, g1, h2.frame g2 (fun i hi hj => h4 i hj hi), h3.chg g2 h7, fun i hi hj => ?_, fun i hi => ?_, h6, fun hs => ?_, h8, h9.trans g2 (fun i hi hlt => by have := h5 i hi; omega)⟩
  · rcases g3 i hi with hh | hh
    · exact h4 i hh hj
    · have := h2.lt i hj; omega
  · have := h9.size
    rcases g3 i hi with hh | hh
    · exact h5 i hh
    · omega
  · rcases g3 sb hs with hh | hh
    · exact h7 hh
    · have := h3.lt; omega
theorem two_ref {w0 w : World} {b1 b2 sb : Nat} {p m win kd nw l1 l2 l2' : Int} {rq rt RQ RT RQ' RT' : List Int} {k : Nat} {args : Array Value} {v : Value} (h : Two w0 b1 b2 sb p m win kd nw l1 rq rt l2 RQ RT w)
    (K : ∀ F, RSt w b2 p m win l2 RQ RT F → Calls Try.prog k args w (MovR b2 p m win l2' RQ' RT' F v w)) :
    Calls Try.prog k args w fun e w' => e = .returned v ∧ Hid (Two w0 b1 b2 sb p m win kd nw l1 rq rt l2' RQ' RT' w') := by
  obtain ⟨F1, F2, h1, h2, h3, h4, h5, h6, h7, h8, h9⟩ := h
  refine (K F2 h2).mono fun e w' ⟨he, F', g1, g2, g3⟩ => ⟨he, F1, F', h1.frame g2 (fun i hi hj => h4 i hi hj), g1, h3.chg g2 h8, fun i hi hj => ?_, h5, fun i hi => ?_, h7, fun hs => ?_, h9.trans g2 (fun i hi hlt => by have := h6 i hi; omega)⟩
  · rcases g3 i hj with hh | hh
    · exact h4 i hi hh
    · have := h1.lt i hi; omega
  · have := h9.size
    rcases g3 i hi with hh | hh
    · exact h6 i hh
    · omega
  · rcases g3 sb hs with hh | hh
    · exact h8 hh
    · have := h3.lt; omega
/-- What is the same in each step: the numbers. -/
structure Nums (p m win l1 l2 now L1 L2 : Int) : Prop where
  p0 : 0 ≤ p
  p1 : p ≤ 100
  w0 : 1 ≤ win
  w1 : win ≤ 1000000
  a0 : 0 ≤ l1
  a1 : l1 ≤ 4611686018427387904
  b0 : 0 ≤ l2
  b1 : l2 ≤ 4611686018427387904
  n0 : 0 ≤ now
  n1 : now ≤ 4611686018427387904
  la : (L1 = now ∧ l1 < now) ∨ (L1 = l1 ∧ now ≤ l1)
  lb : (L2 = now ∧ l2 < now) ∨ (L2 = l2 ∧ now ≤ l2)
section
variable {w0 w : World} {b1 b2 sb : Nat} {p m win kd nw l1 l2 now L1 L2 : Int} {rq rt RQ RT q t : List Int}
theorem two_can (h : Two w0 b1 b2 sb p m win kd nw l1 rq rt l2 RQ RT w) (N : Nums p m win l1 l2 now L1 L2) (eq : lateL rq (L1 - win) = q) (et : lateL rt (L1 - win) = t) (hq : q.length ≤ 100000) :
    Calls Try.prog 28 #[.pointer (some ⟨b1, 0, none⟩), .int .i64 now] w fun e w' => e = .returned (.tuple #[.bool (canB p m q.length t.length), .int .i64 0]) ∧ Hid (Two w0 b1 b2 sb p m win kd nw L1 q t l2 RQ RT w') := by
  subst eq et
  exact two_impl h fun F hb => (bcan_any b1 p m win l1 now L1 rq rt F w hb N.a0 N.a1 N.n0 N.n1 (by have := N.w0; omega) N.w1 N.la N.p0 N.p1 hq).mono fun e w' hh => ⟨hh.1, F, hh.2.1.st, hh.2.2.mono (by intro i hi; simp at hi; rw [hi]; exact hb.mem), fun i hi => .inl hi⟩
theorem two_late (h : Two w0 b1 b2 sb p m win kd nw l1 rq rt l2 RQ RT w) (N : Nums p m win l1 l2 now L1 L2) (eq : lateL rq (L1 - win) = q) (et : lateL rt (L1 - win) = t) :
    Calls Try.prog 34 #[.pointer (some ⟨b1, 0, none⟩), .int .i64 now] w fun e w' => e = .returned (.tuple #[.int .i64 (q.length : Int), .int .i64 (t.length : Int), .int .i64 0]) ∧ Hid (Two w0 b1 b2 sb p m win kd nw L1 q t l2 RQ RT w') := by
  subst eq et
  exact two_impl h fun F hb => (blate_any b1 p m win l1 now L1 rq rt F w hb N.a0 N.a1 N.n0 N.n1 (by have := N.w0; omega) N.w1 N.la).mono fun e w' hh => ⟨hh.1, F, hh.2.1.st, hh.2.2.mono (by intro i hi; simp at hi; rw [hi]; exact hb.mem), fun i hi => .inl hi⟩
theorem two_admit (h : Two w0 b1 b2 sb p m win kd nw l1 rq rt l2 RQ RT w) (N : Nums p m win l1 l2 now L1 L2) (eq : lateL rq (L1 - win) = q) (et : lateL rt (L1 - win) = t) (hq : q.length < 100000) :
    Calls Try.prog 30 #[.pointer (some ⟨b1, 0, none⟩), .int .i64 now] w fun e w' => e = .returned (.int .i64 0) ∧ Hid (Two w0 b1 b2 sb p m win kd nw L1 (q ++ [L1]) t l2 RQ RT w') := by
  subst eq et
  exact two_impl h fun F hb => (badmit_any b1 p m win l1 now L1 rq rt F w hb N.a0 N.a1 N.n0 N.n1 (by have := N.w0; omega) N.w1 N.la hq).mono fun e w' ⟨F', h1, h2, h3, h4⟩ => ⟨h1, F', h2, h3.mono (by intro i hi; simp at hi; rw [hi]; exact hb.mem), h4⟩
theorem two_allow_yes (h : Two w0 b1 b2 sb p m win kd nw l1 rq rt l2 RQ RT w) (N : Nums p m win l1 l2 now L1 L2) (eq : lateL rq (L1 - win) = q) (et : lateL rt (L1 - win) = t) (hq : q.length ≤ 100000) (ht : t.length < 100000) (hy : canB p m q.length t.length = true) :
    Calls Try.prog 32 #[.pointer (some ⟨b1, 0, none⟩), .int .i64 now] w fun e w' => e = .returned (.tuple #[.bool true, .int .i64 0]) ∧ Hid (Two w0 b1 b2 sb p m win kd nw L1 q (t ++ [L1]) l2 RQ RT w') := by
  subst eq et
  exact two_impl h fun F hb => (ballow_yes b1 p m win l1 now L1 rq rt F w hb N.a0 N.a1 N.n0 N.n1 (by have := N.w0; omega) N.w1 N.la N.p0 N.p1 hq ht hy).mono fun e w' ⟨F', h1, h2, h3, h4⟩ => ⟨h1, F', h2, h3.mono (by intro i hi; simp at hi; rw [hi]; exact hb.mem), h4⟩
theorem two_allow_no (h : Two w0 b1 b2 sb p m win kd nw l1 rq rt l2 RQ RT w) (N : Nums p m win l1 l2 now L1 L2) (eq : lateL rq (L1 - win) = q) (et : lateL rt (L1 - win) = t) (hq : q.length ≤ 100000) (hy : canB p m q.length t.length = false) :
    Calls Try.prog 32 #[.pointer (some ⟨b1, 0, none⟩), .int .i64 now] w fun e w' => e = .returned (.tuple #[.bool false, .int .i64 0]) ∧ Hid (Two w0 b1 b2 sb p m win kd nw L1 q t l2 RQ RT w') := by
  subst eq et
  exact two_impl h fun F hb => (ballow_no b1 p m win l1 now L1 rq rt F w hb N.a0 N.a1 N.n0 N.n1 (by have := N.w0; omega) N.w1 N.la N.p0 N.p1 hq hy).mono fun e w' hh => ⟨hh.1, F, hh.2.1.st, hh.2.2.mono (by intro i hi; simp at hi; rw [hi]; exact hb.mem), fun i hi => .inl hi⟩
theorem two_rcan (h : Two w0 b1 b2 sb p m win kd nw l1 rq rt l2 RQ RT w) (N : Nums p m win l1 l2 now L1 L2) (hq : RQ.length ≤ 100000) (ht : RT.length ≤ 100000) :
    Calls Try.prog 29 #[.pointer (some ⟨b2, 0, none⟩), .int .i64 now] w fun e w' => e = .returned (.tuple #[.bool (rcanB p m (cnt RQ (L2 - win)) (cnt RT (L2 - win))), .int .i64 0]) ∧ Hid (Two w0 b1 b2 sb p m win kd nw l1 rq rt L2 RQ RT w') :=
  two_ref h fun F hb => (rcan_any b2 p m win l2 now L2 RQ RT F w hb N.b0 N.b1 N.n0 N.n1 (by have := N.w0; omega) N.w1 N.lb N.p0 N.p1 hq ht).mono fun e w' hh => ⟨hh.1, F, hh.2.1, hh.2.2.mono (by intro i hi; simp at hi; rw [hi]; exact hb.mem), fun i hi => .inl hi⟩
theorem two_rlate (h : Two w0 b1 b2 sb p m win kd nw l1 rq rt l2 RQ RT w) (N : Nums p m win l1 l2 now L1 L2) :
    Calls Try.prog 35 #[.pointer (some ⟨b2, 0, none⟩), .int .i64 now] w fun e w' => e = .returned (.tuple #[.int .i64 ((cnt RQ (L2 - win) : Nat) : Int), .int .i64 ((cnt RT (L2 - win) : Nat) : Int), .int .i64 0]) ∧ Hid (Two w0 b1 b2 sb p m win kd nw l1 rq rt L2 RQ RT w') :=
  two_ref h fun F hb => (rlate_any b2 p m win l2 now L2 RQ RT F w hb N.b0 N.b1 N.n0 N.n1 (by have := N.w0; omega) N.w1 N.lb).mono fun e w' hh => ⟨hh.1, F, hh.2.1, hh.2.2.mono (by intro i hi; simp at hi; rw [hi]; exact hb.mem), fun i hi => .inl hi⟩
theorem two_radmit (h : Two w0 b1 b2 sb p m win kd nw l1 rq rt l2 RQ RT w) (N : Nums p m win l1 l2 now L1 L2) (hq : RQ.length < 100000) :
    Calls Try.prog 31 #[.pointer (some ⟨b2, 0, none⟩), .int .i64 now] w fun e w' => e = .returned (.int .i64 0) ∧ Hid (Two w0 b1 b2 sb p m win kd nw l1 rq rt L2 (RQ ++ [L2]) RT w') :=
  two_ref h fun F hb => (radmit_any b2 p m win l2 now L2 RQ RT F w hb N.b0 N.b1 N.n0 N.n1 (by have := N.w0; omega) N.w1 N.lb hq).mono fun e w' ⟨F', h1, h2, h3, h4⟩ => ⟨h1, F', h2, h3, h4⟩
theorem two_rallow_yes (h : Two w0 b1 b2 sb p m win kd nw l1 rq rt l2 RQ RT w) (N : Nums p m win l1 l2 now L1 L2) (hq : RQ.length ≤ 100000) (ht : RT.length < 100000) (hy : rcanB p m (cnt RQ (L2 - win)) (cnt RT (L2 - win)) = true) :
    Calls Try.prog 33 #[.pointer (some ⟨b2, 0, none⟩), .int .i64 now] w fun e w' => e = .returned (.tuple #[.bool true, .int .i64 0]) ∧ Hid (Two w0 b1 b2 sb p m win kd nw l1 rq rt L2 RQ (RT ++ [L2]) w') :=
  two_ref h fun F hb => (rallow_yes b2 p m win l2 now L2 RQ RT F w hb N.b0 N.b1 N.n0 N.n1 (by have := N.w0; omega) N.w1 N.lb N.p0 N.p1 hq ht hy).mono fun e w' ⟨F', h1, h2, h3, h4⟩ => ⟨h1, F', h2, h3, h4⟩
theorem two_rallow_no (h : Two w0 b1 b2 sb p m win kd nw l1 rq rt l2 RQ RT w) (N : Nums p m win l1 l2 now L1 L2) (hq : RQ.length ≤ 100000) (ht : RT.length ≤ 100000) (hy : rcanB p m (cnt RQ (L2 - win)) (cnt RT (L2 - win)) = false) :
    Calls Try.prog 33 #[.pointer (some ⟨b2, 0, none⟩), .int .i64 now] w fun e w' => e = .returned (.tuple #[.bool false, .int .i64 0]) ∧ Hid (Two w0 b1 b2 sb p m win kd nw l1 rq rt L2 RQ RT w') :=
  two_ref h fun F hb => (rallow_no b2 p m win l2 now L2 RQ RT F w hb N.b0 N.b1 N.n0 N.n1 (by have := N.w0; omega) N.w1 N.lb N.p0 N.p1 hq ht hy).mono fun e w' hh => ⟨hh.1, F, hh.2.1, hh.2.2.mono (by intro i hi; simp at hi; rw [hi]; exact hb.mem), fun i hi => .inl hi⟩
end
end Go.Proofs.Ytgaggimkkoopfaa
