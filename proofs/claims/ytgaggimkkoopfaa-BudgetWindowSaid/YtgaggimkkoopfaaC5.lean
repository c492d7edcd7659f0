/- Two budgets of the program side by side: the same calls leave them alike; a request more never closes a retry's door. -/
import Derived.Test.YtgaggimkkoopfaaC4
namespace Go.Proofs.Ytgaggimkkoopfaa
open Go.RowKit
set_option linter.unusedVariables false

theorem lateL_idem (zs : List Int) (fr : Int) : lateL (lateL zs fr) fr = lateL zs fr := by
  induction zs with
  | nil => rfl
  | cons t zs ih =>
    by_cases ht : t ≤ fr
    · rw [lateL_cons_yes ht, ih]
    · rw [lateL_cons_no ht, lateL_cons_no ht]
theorem lateL_len (zs : List Int) (fr : Int) : (lateL zs fr).length ≤ zs.length := by
  induction zs with
  | nil => simp [lateL]
  | cons t zs ih =>
    by_cases ht : t ≤ fr
    · rw [lateL_cons_yes ht]; simp; omega
    · rw [lateL_cons_no ht]; exact Nat.le_refl _
theorem lateL_push (zs : List Int) (fr L : Int) (h : fr < L) : lateL (lateL zs fr ++ [L]) fr = lateL zs fr ++ [L] := by
  induction zs with
  | nil => exact lateL_cons_no (t := L) (zs := []) (by omega)
  | cons t zs ih =>
    by_cases ht : t ≤ fr
    · rw [lateL_cons_yes ht, ih]
    · rw [lateL_cons_no ht, List.cons_append, lateL_cons_no ht]
theorem can_more (p m : Int) (n k : Nat) (p0 : 0 ≤ p) (h : canB p m n k = true) : canB p m (n + 1) k = true := by
  unfold canB at *
  have hm : p * (n : Int) ≤ p * ((n + 1 : Nat) : Int) := Int.mul_le_mul_of_nonneg_left (by omega) p0
  simp at *
  omega
/-- Two budgets, and a block besides; all newer than w0, of which nothing has changed. -/
def Duo (w0 : World) (b1 b2 sb : Nat) (cs : List Value) (T : Nat) (p m win : Int) (l1 : Int) (q1 t1 : List Int) (l2 : Int) (q2 t2 : List Int) (w : World) : Prop :=
  ∃ F1 F2, BSt w b1 p m win l1 q1 t1 F1 ∧ BSt w b2 p m win l2 q2 t2 F2 ∧ Blk w sb cs T ∧ (∀ i, i ∈ F1 → i ∉ F2) ∧ (∀ i, i ∈ F1 → w0.heap.size ≤ i) ∧ (∀ i, i ∈ F2 → w0.heap.size ≤ i) ∧ sb ∉ F1 ∧ sb ∉ F2 ∧ Chg [] w0 w
section
variable {w0 w w' : World} {b1 b2 sb : Nat} {cs : List Value} {T : Nat} {p m win l1 l2 l1' l2' : Int} {q1 t1 q2 t2 q' t' : List Int} {k : Nat} {args : Array Value} {v : Value}
theorem Duo.box (h : Duo w0 b1 b2 sb cs T p m win l1 q1 t1 l2 q2 t2 w) : Blk w sb cs T := by
  obtain ⟨F1, F2, h1, h2, h3, h4⟩ := h
  exact h3
theorem Duo.chg (h : Duo w0 b1 b2 sb cs T p m win l1 q1 t1 l2 q2 t2 w) : Chg [] w0 w := by
  obtain ⟨F1, F2, h1, h2, h3, h4, h5, h6, h7, h8, h9⟩ := h
  exact h9
theorem Duo.still (h : Duo w0 b1 b2 sb cs T p m win l1 q1 t1 l2 q2 t2 w) (hc : Chg [] w w') : Duo w0 b1 b2 sb cs T p m win l1 q1 t1 l2 q2 t2 w' := by
  obtain ⟨F1, F2, h1, h2, h3, h4, h5, h6, h7, h8, h9⟩ := h
  exact ⟨F1, F2, h1.frame hc (by simp), h2.frame hc (by simp), h3.chg hc (by simp), h4, h5, h6, h7, h8, h9.trans hc (by simp)⟩
theorem duo_a (h : Duo w0 b1 b2 sb cs T p m win l1 q1 t1 l2 q2 t2 w)
    (K : ∀ F, BSt w b1 p m win l1 q1 t1 F → Calls Try.prog k args w (MovB b1 p m win l1' q' t' F v w)) :
    Calls Try.prog k args w fun e w' => e = .returned v ∧ Hid (Duo w0 b1 b2 sb cs T p m win l1' q' t' l2 q2 t2 w') := by
  obtain ⟨F1, F2, h1, h2, h3, h4, h5, h6, h7, h8, h9⟩ := h
  refine (K F1 h1).mono fun e w' ⟨he, F', g1, g2, g3⟩ => ⟨he, F', F2, g1, h2.frame g2 (fun i hi hj => h4 i hj hi), h3.chg g2 h7, fun i hi hj => ?_, fun i hi => ?_, h6, fun hs => ?_, h8, h9.trans g2 (fun i hi hlt => by have := h5 i hi; omega)⟩
  · rcases g3 i hi with hh | hh
    · exact h4 i hh hj
    · have := h2.lt i hj; omega
  · have := h9.size
    rcases g3 i hi with hh | hh
    · exact h5 i hh
    · omega
  · rcases g3 sb hs with hh | hh
    · exact h7 hh
    · have := h3.lt; omega
theorem duo_b (h : Duo w0 b1 b2 sb cs T p m win l1 q1 t1 l2 q2 t2 w)
    (K : ∀ F, BSt w b2 p m win l2 q2 t2 F → Calls Try.prog k args w (MovB b2 p m win l2' q' t' F v w)) :
    Calls Try.prog k args w fun e w' => e = .returned v ∧ Hid (Duo w0 b1 b2 sb cs T p m win l1 q1 t1 l2' q' t' w') := by
  obtain ⟨F1, F2, h1, h2, h3, h4, h5, h6, h7, h8, h9⟩ := h
  refine (K F2 h2).mono fun e w' ⟨he, F', g1, g2, g3⟩ => ⟨he, F1, F', h1.frame g2 (fun i hi hj => h4 i hi hj), g1, h3.chg g2 h8, fun i hi hj => ?_, h5, fun i hi => ?_, h7, fun hs => ?_, h9.trans g2 (fun i hi hlt => by have := h6 i hi; omega)⟩
  · rcases g3 i hj with hh | hh
    · exact h4 i hi hh
    · have := h1.lt i hi; omega
  · have := h9.size
    rcases g3 i hi with hh | hh
    · exact h6 i hh
    · omega
  · rcases g3 sb hs with hh | hh
    · exact h8 hh
    · have := h3.lt; omega
end
/-- The numbers of one call on a budget. -/
structure Num1 (p m win l now L : Int) : Prop where
  p0 : 0 ≤ p
  p1 : p ≤ 100
  w0 : 1 ≤ win
  w1 : win ≤ 1000000
  a0 : 0 ≤ l
  a1 : l ≤ 4611686018427387904
  n0 : 0 ≤ now
  n1 : now ≤ 4611686018427387904
  la : (L = now ∧ l < now) ∨ (L = l ∧ now ≤ l)
section
variable {w : World} {b : Nat} {p m win l now L : Int} {rq rt q t : List Int} {F : List Nat}
theorem mov_can (hb : BSt w b p m win l rq rt F) (N : Num1 p m win l now L) (eq : lateL rq (L - win) = q) (et : lateL rt (L - win) = t) (hq : q.length ≤ 100000) :
    Calls Try.prog 28 #[.pointer (some ⟨b, 0, none⟩), .int .i64 now] w (MovB b p m win L q t F (.tuple #[.bool (canB p m q.length t.length), .int .i64 0]) w) := by
  subst eq et
  exact (bcan_any b p m win l now L rq rt F w hb N.a0 N.a1 N.n0 N.n1 (by have := N.w0; omega) N.w1 N.la N.p0 N.p1 hq).mono fun e w' hh => ⟨hh.1, F, hh.2.1.st, hh.2.2.mono (by intro i hi; simp at hi; rw [hi]; exact hb.mem), fun i hi => .inl hi⟩
theorem mov_admit (hb : BSt w b p m win l rq rt F) (N : Num1 p m win l now L) (eq : lateL rq (L - win) = q) (et : lateL rt (L - win) = t) (hq : q.length < 100000) :
    Calls Try.prog 30 #[.pointer (some ⟨b, 0, none⟩), .int .i64 now] w (MovB b p m win L (q ++ [L]) t F (.int .i64 0) w) := by
  subst eq et
  exact (badmit_any b p m win l now L rq rt F w hb N.a0 N.a1 N.n0 N.n1 (by have := N.w0; omega) N.w1 N.la hq).mono fun e w' ⟨F', h1, h2, h3, h4⟩ => ⟨h1, F', h2, h3.mono (by intro i hi; simp at hi; rw [hi]; exact hb.mem), h4⟩
theorem mov_allow (hb : BSt w b p m win l rq rt F) (N : Num1 p m win l now L) (eq : lateL rq (L - win) = q) (et : lateL rt (L - win) = t) (hq : q.length ≤ 100000) (ht : t.length < 100000) (y : Bool) (hy : canB p m q.length t.length = y) :
    Calls Try.prog 32 #[.pointer (some ⟨b, 0, none⟩), .int .i64 now] w (MovB b p m win L q (if y then t ++ [L] else t) F (.tuple #[.bool y, .int .i64 0]) w) := by
  subst eq et
  cases y
  · exact (ballow_no b p m win l now L rq rt F w hb N.a0 N.a1 N.n0 N.n1 (by have := N.w0; omega) N.w1 N.la N.p0 N.p1 hq hy).mono fun e w' hh => ⟨hh.1, F, hh.2.1.st, hh.2.2.mono (by intro i hi; simp at hi; rw [hi]; exact hb.mem), fun i hi => .inl hi⟩
  · exact (ballow_yes b p m win l now L rq rt F w hb N.a0 N.a1 N.n0 N.n1 (by have := N.w0; omega) N.w1 N.la N.p0 N.p1 hq ht hy).mono fun e w' ⟨F', h1, h2, h3, h4⟩ => ⟨h1, F', h2, h3.mono (by intro i hi; simp at hi; rw [hi]; exact hb.mem), h4⟩
end
/-- Both alike. -/
def Same (w0 : World) (b1 b2 : Nat) (p m win : Int) (k : Nat) (w : World) : Prop :=
  ∃ (last : Int) (q t : List Int) (F1 F2 : List Nat), BSt w b1 p m win last q t F1 ∧ BSt w b2 p m win last q t F2 ∧ (∀ i, i ∈ F1 → i ∉ F2) ∧ (∀ i, i ∈ F1 → w0.heap.size ≤ i) ∧ (∀ i, i ∈ F2 → w0.heap.size ≤ i) ∧ Chg [] w0 w ∧ 0 ≤ last ∧ last ≤ 4611686018427387904 ∧ q.length ≤ k ∧ t.length ≤ k
theorem Same.chg {w0 w : World} {b1 b2 : Nat} {p m win : Int} {k : Nat} (h : Same w0 b1 b2 p m win k w) : Chg [] w0 w := by
  obtain ⟨last, q, t, F1, F2, h1, h2, h3, h4, h5, h6, h7⟩ := h
  exact h6
theorem Same.duo {w0 w : World} {b1 b2 : Nat} {p m win : Int} {k : Nat} (h : Same w0 b1 b2 p m win k w) (kd nw : Int) :
    ∃ last q t, Hid (Duo w0 b1 b2 w.heap.size [.int .i64 kd, .int .i64 nw] 51 p m win last q t last q t (w.alloc (.cells #[.int .i64 kd, .int .i64 nw] 51))) ∧ 0 ≤ last ∧ last ≤ 4611686018427387904 ∧ q.length ≤ k ∧ t.length ≤ k := by
  obtain ⟨last, q, t, F1, F2, h1, h2, h3, h4, h5, h6, h7, h8, h9, ha⟩ := h
  refine ⟨last, q, t, ⟨F1, F2, h1.frame ((Chg.refl [] w).alloc _) (by simp), h2.frame ((Chg.refl [] w).alloc _) (by simp), Blk.new w [.int .i64 kd, .int .i64 nw] 51, h3, h4, h5, fun hs => ?_, fun hs => ?_, h6.alloc _⟩, h7, h8, h9, ha⟩
  · have := h1.lt _ hs; omega
  · have := h2.lt _ hs; omega
theorem Same.duo0 {w0 w : World} {b1 b2 sb : Nat} {cs : List Value} {T : Nat} {p m win : Int} {k : Nat} (h : Same w0 b1 b2 p m win k w) (hb : Blk w0 sb cs T) :
    ∃ last q t, Hid (Duo w0 b1 b2 sb cs T p m win last q t last q t w) ∧ 0 ≤ last ∧ last ≤ 4611686018427387904 ∧ q.length ≤ k ∧ t.length ≤ k := by
  obtain ⟨last, q, t, F1, F2, h1, h2, h3, h4, h5, h6, h7, h8, h9, ha⟩ := h
  have := hb.lt
  exact ⟨last, q, t, ⟨F1, F2, h1, h2, hb.chg h6 (by simp), h3, h4, h5, fun hs => by have := h4 _ hs; omega, fun hs => by have := h5 _ hs; omega, h6⟩, h7, h8, h9, ha⟩
theorem Duo.same {w0 w : World} {b1 b2 sb : Nat} {cs : List Value} {T : Nat} {p m win last : Int} {q t : List Int} {k : Nat} (h : Duo w0 b1 b2 sb cs T p m win last q t last q t w) (h0 : 0 ≤ last) (h1 : last ≤ 4611686018427387904) (hq : q.length ≤ k) (ht : t.length ≤ k) : Hid (Same w0 b1 b2 p m win k w) := by
  obtain ⟨F1, F2, g1, g2, g3, g4, g5, g6, g7, g8, g9⟩ := h
  exact ⟨last, q, t, F1, F2, g1, g2, g4, g5, g6, g9, h0, h1, hq, ht⟩
end Go.Proofs.Ytgaggimkkoopfaa
