/- Layer 19: a schedule of hosts in memory (as a set of hosts: runs, sick, at, good, bad); New, bring, when. -/
import Derived.Test.YteaepadamhmknaaHA
namespace Go.Proofs.Yteaepadamhmknaa
open Go.RowKit
set_option linter.unusedVariables false

theorem step_make_full {P : Program} {ops : Array Oper} {o : Oper} {a : Act} {w : World} {K : Act → World → Prop} {Q : Exit → Act → World → Prop} {E : Prop}
    (hg : o.guard = none) (l c : Operand) (t : TypeId) (hop : o.op = Op.makeSlice t l c)
    (base : Nat) (e : TypeId) (i : TypeInfo) (z : Value) (size : Nat) (h1 : P.underlying t = some (.slice e)) (h2 : P.info? e = some i) (h3 : i.zero = some z) (h4 : i.size = size)
    (kl kc : IntKind) (L C : Int) (n : Nat) (hl : a.eval l = .int kl L) (hc : a.eval c = .int kc C) (hL : L = (n : Int)) (hC : C = (n : Int)) (b2 : i.bytes * n ≤ 281474976710656) (b3 : n ≤ maxLen) (b4 : base ≤ w.heap.size)
    (hK : ∀ w', w'.ownsRow base e size (.slice (some ⟨w.heap.size, 0, none⟩) n n) n (madeCells z.cells (n * size)).toList → w.grownBy w' none → K (a.put o.dst (.slice (some ⟨w.heap.size, 0, none⟩) n n)) w') :
    if Region.wanted o (yielded ops a.tmps) = true then Oper.wp P o a w K Q else E := by
  have hw : Region.wanted o (yielded ops a.tmps) = true := by simp [Region.wanted, hg]
  rw [if_pos hw]
  obtain ⟨w', hrun, r1, r2⟩ := run_make_full (P := P) w base t e i z size h1 h2 h3 h4 kl kc n b2 b3 b4
  subst hL
  subst hC
  unfold Oper.wp
  simp [execOp, hop, hl, hc, hrun, Result.andThen]
  exact hK w' r1 r2
theorem quiet_same {P : Program} {f : FuncId} {args : Array Value} {w : World} {n : Nat} {v : Value}
    (h : Calls P f args (w.drewN n) fun e w' => e = .returned v ∧ w.drewN n = w') : Calls P f args (w.drewN n) fun e w'' => e = .returned v ∧ ∃ m, w'' = w.drewN m :=
  h.mono fun _ _ ⟨he, hm⟩ => ⟨he, n, hm.symm⟩
theorem in_yes (n lo hi : Int) (h : lo ≤ n ∧ n ≤ hi) (w : World) : Calls Try.prog 39 #[.int .i64 n, .int .i64 lo, .int .i64 hi] w fun e w' => e = .returned (.bool true) ∧ w = w' := by
  obtain ⟨h1, h2⟩ := h
  go_enter Try.func39, Try.ntmps39
  go_wp2
  go_ret
  exact ⟨rfl, rfl⟩
theorem in_no (n lo hi : Int) (h : ¬ (lo ≤ n ∧ n ≤ hi)) (w : World) : Calls Try.prog 39 #[.int .i64 n, .int .i64 lo, .int .i64 hi] w fun e w' => e = .returned (.bool false) ∧ w = w' := by
  by_cases h1 : lo ≤ n
  · have h2 : ¬ n ≤ hi := fun k => h ⟨h1, k⟩
    clear h
    go_enter Try.func39, Try.ntmps39
    go_wp2
    go_ret
    exact ⟨rfl, rfl⟩
  · clear h
    go_enter Try.func39, Try.ntmps39
    go_wp2
    go_ret
    exact ⟨rfl, rfl⟩
/-- What New asks. -/
def PGood (n every timeout up down : Int) : Prop := (1 ≤ n ∧ n ≤ 16) ∧ (0 ≤ every ∧ every ≤ 1000000) ∧ (1 ≤ timeout ∧ timeout ≤ 1000000) ∧ (1 ≤ up ∧ up ≤ 100) ∧ (1 ≤ down ∧ down ≤ 100)
theorem info85 : (Try.prog.info? 85).map (fun i => (i.zero, i.size, i.bytes)) = some (some (.agg #[.bool false, .bool false, .int .i64 0, .int .i64 0, .int .i64 0]), 5, 32) := by kernel_rfl
theorem pnew_bad (n every timeout up down : Int) (h : ¬ PGood n every timeout up down) (w : World) :
    Calls Try.prog 26 #[.int .i64 n, .agg #[.int .i64 every, .int .i64 timeout, .int .i64 up, .int .i64 down], .int .i64 0] w fun e w' => e = .returned (.tuple #[.pointer none, .int .i64 1]) ∧ Hid (Chg [] w w') := by
  by_cases k0 : 1 ≤ n ∧ n ≤ 16
  rotate_left
  · clear h
    go_enter Try.func26, Try.ntmps26
    go_wp2_with (first | (go_at_call 34; (with_reducible refine (add_zero 0 (by omega) (by omega) _).mono ?_); rintro e w' ⟨rfl, rfl⟩) | (go_at_call 39; (with_reducible refine (in_yes _ _ _ (by assumption) _).mono ?_); rintro e w' ⟨rfl, rfl⟩) | (go_at_call 39; (with_reducible refine (in_no _ _ _ (by assumption) _).mono ?_); rintro e w' ⟨rfl, rfl⟩))
    go_ret2
    exact ⟨rfl, Chg.of_below ((Below.refl _ w).alloc (Nat.le_refl _) _)⟩
  by_cases k1 : 0 ≤ every ∧ every ≤ 1000000
  rotate_left
  · clear h
    go_enter Try.func26, Try.ntmps26
    go_wp2_with (first | (go_at_call 34; (with_reducible refine (add_zero 0 (by omega) (by omega) _).mono ?_); rintro e w' ⟨rfl, rfl⟩) | (go_at_call 39; (with_reducible refine (in_yes _ _ _ (by assumption) _).mono ?_); rintro e w' ⟨rfl, rfl⟩) | (go_at_call 39; (with_reducible refine (in_no _ _ _ (by assumption) _).mono ?_); rintro e w' ⟨rfl, rfl⟩))
    go_ret2
    exact ⟨rfl, Chg.of_below ((Below.refl _ w).alloc (Nat.le_refl _) _)⟩
  by_cases k2 : 1 ≤ timeout ∧ timeout ≤ 1000000
  rotate_left
  · clear h
    go_enter Try.func26, Try.ntmps26
    go_wp2_with (first | (go_at_call 34; (with_reducible refine (add_zero 0 (by omega) (by omega) _).mono ?_); rintro e w' ⟨rfl, rfl⟩) | (go_at_call 39; (with_reducible refine (in_yes _ _ _ (by assumption) _).mono ?_); rintro e w' ⟨rfl, rfl⟩) | (go_at_call 39; (with_reducible refine (in_no _ _ _ (by assumption) _).mono ?_); rintro e w' ⟨rfl, rfl⟩))
    go_ret2
    exact ⟨rfl, Chg.of_below ((Below.refl _ w).alloc (Nat.le_refl _) _)⟩
  by_cases k3 : 1 ≤ up ∧ up ≤ 100
  rotate_left
  · clear h
    go_enter Try.func26, Try.ntmps26
    go_wp2_with (first | (go_at_call 34; (with_reducible refine (add_zero 0 (by omega) (by omega) _).mono ?_); rintro e w' ⟨rfl, rfl⟩) | (go_at_call 39; (with_reducible refine (in_yes _ _ _ (by assumption) _).mono ?_); rintro e w' ⟨rfl, rfl⟩) | (go_at_call 39; (with_reducible refine (in_no _ _ _ (by assumption) _).mono ?_); rintro e w' ⟨rfl, rfl⟩))
    go_ret2
    exact ⟨rfl, Chg.of_below ((Below.refl _ w).alloc (Nat.le_refl _) _)⟩
  by_cases k4 : 1 ≤ down ∧ down ≤ 100
  rotate_left
  · clear h
    go_enter Try.func26, Try.ntmps26
    go_wp2_with (first | (go_at_call 34; (with_reducible refine (add_zero 0 (by omega) (by omega) _).mono ?_); rintro e w' ⟨rfl, rfl⟩) | (go_at_call 39; (with_reducible refine (in_yes _ _ _ (by assumption) _).mono ?_); rintro e w' ⟨rfl, rfl⟩) | (go_at_call 39; (with_reducible refine (in_no _ _ _ (by assumption) _).mono ?_); rintro e w' ⟨rfl, rfl⟩))
    go_ret2
    exact ⟨rfl, Chg.of_below ((Below.refl _ w).alloc (Nat.le_refl _) _)⟩
  exact absurd ⟨k0, k1, k2, k3, k4⟩ h
set_option maxHeartbeats 4000000 in
set_option maxRecDepth 100000 in
theorem pnew_ok (m : Nat) (every timeout up down : Int) (w : World) (h : PGood m every timeout up down) :
    Calls Try.prog 26 #[.int .i64 m, .agg #[.int .i64 every, .int .i64 timeout, .int .i64 up, .int .i64 down], .int .i64 0] w (Made 83 85 m every timeout up down w) := by
  obtain ⟨k0, k1, k2, k3, k4⟩ := h
  obtain ⟨i0, hi, hz0, hz1, hz2⟩ := info_parts info85
  have HI := Lib.hid (And.intro hi (And.intro hz0 (And.intro hz1 hz2)))
  have hm : m ≤ 16 := by omega
  have hm1 : 1 ≤ m := by omega
  clear hi hz0 hz1 hz2
  go_enter Try.func26, Try.ntmps26
  go_wp2_with (first | (go_at_call 34; (with_reducible refine (add_zero 0 (by omega) (by omega) _).mono ?_); rintro e w' ⟨rfl, rfl⟩) | (go_at_call 39; (with_reducible refine (in_yes _ _ _ (by assumption) _).mono ?_); rintro e w' ⟨rfl, rfl⟩))
  have HB := Lib.hid (Blk.new w [.int .i64 every, .int .i64 timeout, .int .i64 up, .int .i64 down] 51)
  have HC := Lib.hid ((Chg.refl [] w).alloc (.cells #[.int .i64 every, .int .i64 timeout, .int .i64 up, .int .i64 down] 51))
  have hsz : w.heap.size < (w.alloc (.cells #[.int .i64 every, .int .i64 timeout, .int .i64 up, .int .i64 down] 51)).heap.size := by simp
  generalize (w.alloc (.cells #[.int .i64 every, .int .i64 timeout, .int .i64 up, .int .i64 down] 51)) = wa at *
  generalize w.heap.size = p at *
  have b0 := HB.out.cell 0 _ rfl
  have b1 := HB.out.cell 1 _ rfl
  have b2 := HB.out.cell 2 _ rfl
  have b3 := HB.out.cell 3 _ rfl
  obtain ⟨w1, hrun, hown, hgrow⟩ := run_make_full (P := Try.prog) wa.drew 0 81 85 i0 (.agg #[.bool false, .bool false, .int .i64 0, .int .i64 0, .int .i64 0]) 5 Try.underlying81 HI.out.1 HI.out.2.1 HI.out.2.2.1 .i64 .i64 m (by rw [HI.out.2.2.2]; omega) (by unfold maxLen; omega) (Nat.zero_le _)
  have hch : Chg [] wa w1 := (Chg.refl [] wa).drew.grown hgrow (by simp)
  have HCH := Lib.hid hch
  rw [made m] at hown
  have HOWN := Lib.hid (row_blk hown)
  have e0 := (HB.out.chg hch (by simp)).cell 0 _ rfl
  have e1 := (HB.out.chg hch (by simp)).cell 1 _ rfl
  have e2 := (HB.out.chg hch (by simp)).cell 2 _ rfl
  have e3 := (HB.out.chg hch (by simp)).cell 3 _ rfl
  clear hown hgrow hch
  have hsz2 : wa.drew.heap.size = wa.heap.size := rfl
  go_region
  clear hrun e0 e1 e2 e3 b0 b1 b2 b3
  rw [hsz2] at HOWN
  have hs1 := HCH.out.size
  have HST := Lib.hid (show Hst 83 85 (w1.alloc (.cells #[.int .i64 every, .int .i64 timeout, .int .i64 up, .int .i64 down, .int .i64 0, .slice (some ⟨wa.heap.size, 0, none⟩) m m] 83)) w1.heap.size wa.heap.size every timeout up down 0 (List.replicate m fresh) from
    ⟨by rw [List.length_replicate]; exact Blk.new w1 _ 83, HOWN.out.alloc _, by have := Blk.lt HOWN.out; omega⟩)
  have HCW := Lib.hid ((HC.out.trans HCH.out (by simp)).alloc (.cells #[.int .i64 every, .int .i64 timeout, .int .i64 up, .int .i64 down, .int .i64 0, .slice (some ⟨wa.heap.size, 0, none⟩) m m] 83))
  have HN := Lib.hid (show w.heap.size ≤ w1.heap.size ∧ w.heap.size ≤ wa.heap.size from ⟨Nat.le_trans HC.out.size hs1, HC.out.size⟩)
  clear HOWN HCH HC HB hsz hsz2 hs1
  generalize w1.alloc (.cells #[.int .i64 every, .int .i64 timeout, .int .i64 up, .int .i64 down, .int .i64 0, .slice (some ⟨wa.heap.size, 0, none⟩) m m] 83) = w2 at *
  generalize w1.heap.size = b at *
  generalize wa.heap.size = g at *
  have c5 := HST.out.num.cell 5 _ rfl
  rw [List.length_replicate] at c5
  have hm2 : (m : Int) ≤ 16 := by omega
  go_wp2_with fail
  go_loopw [59] (fun i wr => ∃ k : Nat, k ≤ m ∧ i = .int .i64 k ∧ Hid (Hst 83 85 wr b g every timeout up down 0 (List.replicate m fresh)) ∧ Hid (Chg [] w wr)) (fun i _ => m - (intOf i).toNat)
  case atStart => exact ⟨0, by omega, rfl, HST, HCW⟩
  case round =>
    clear c5 HST HCW
    obtain ⟨k, hk, rfl, HS, HC⟩ := hrel
    by_cases hkm : k < m
    · have c5 := HS.out.num.cell 5 _ rfl
      rw [List.length_replicate] at c5
      have hx : (List.replicate m fresh)[k]? = some fresh := by rw [List.getElem?_replicate, if_pos hkm]
      obtain ⟨d0, d1, d2, d3, d4⟩ := HS.out.host hx
      have f2 := HS.out.mayset (k * 5 + 2)
      have hp := HS.out.put hx 2 (.int .i64 0) fresh (by omega) rfl
      rw [set_same hx] at hp
      have HP := Lib.hid hp
      have HQ := Lib.hid (HC.out.setCell (p := ⟨g, k * 5 + 2, none⟩) (by have := HN.out.2; dsimp only; omega) (.int .i64 0))
      clear hx hp
      go_wp2_with fail
      go_roundw
      case rel => exact ⟨k + 1, by omega, by go_num, HP, HQ⟩
      case measure => simp [intOf]; omega
    · go_wp2_with fail
      go_ret2
      exact ⟨b, g, rfl, HN.out.1, HN.out.2, HS.out, HC.out⟩
/-- bring -/
theorem pbring_bad (p : Option Addr) (now : Int) (h : now < 0 ∨ 4611686018427387904 < now) (w : World) : Calls Try.prog 40 #[.pointer p, .int .i64 now] w fun e w' => e = .returned (.tuple #[.bool false, .int .i64 1]) ∧ w = w' := by
  go_enter Try.func40, Try.ntmps40
  go_wp2_with (first | (go_at_call 34; (with_reducible refine (add_bad now h _).mono ?_); rintro e w' ⟨rfl, rfl⟩))
  go_ret2
  exact ⟨rfl, rfl⟩
theorem pbring_nil (now : Int) (n0 : 0 ≤ now) (n1 : now ≤ 4611686018427387904) (w : World) : Calls Try.prog 40 #[.pointer none, .int .i64 now] w fun e w' => e = .returned (.tuple #[.bool false, .int .i64 0]) ∧ w = w' := by
  go_enter Try.func40, Try.ntmps40
  go_wp2_with (first | (go_at_call 34; (with_reducible refine (add_zero now n0 n1 _).mono ?_); rintro e w' ⟨rfl, rfl⟩))
  go_ret2
  exact ⟨rfl, rfl⟩
theorem pbring_any (b g : Nat) (every timeout up down last now : Int) (hs : List Ho) (w : World) (h : Hst 83 85 w b g every timeout up down last hs) (n0 : 0 ≤ now) (n1 : now ≤ 4611686018427387904) (hL : last ≤ now) :
    Calls Try.prog 40 #[.pointer (some ⟨b, 0, none⟩), .int .i64 now] w fun e w' => e = .returned (.tuple #[.bool true, .int .i64 0]) ∧ Hid (Brought 83 85 b g every timeout up down now hs w w') := by
  have HH := Lib.hid h
  have c4 := h.num.cell 4 _ rfl
  have f4 := h.num.free 4
  clear h
  have HW := Lib.hid (show Brought 83 85 b g every timeout up down now hs w (w.setCell ⟨b, 4, none⟩ (.int .i64 now)) from ⟨⟨HH.out.num.set 4 _, Blk.other HH.out.recs (Ne.symm HH.out.ne) _, HH.out.ne⟩, (Chg.refl _ _).setCell (by simp) _⟩)
  rcases (show last < now ∨ last = now by omega) with hlt | rfl
  · go_enter Try.func40, Try.ntmps40
    go_wp2_with (first | (go_at_call 34; (with_reducible refine (add_zero _ n0 n1 _).mono ?_); rintro e w' ⟨rfl, rfl⟩))
    go_ret2
    exact ⟨rfl, HW.out⟩
  · go_enter Try.func40, Try.ntmps40
    go_wp2_with (first | (go_at_call 34; (with_reducible refine (add_zero _ n0 n1 _).mono ?_); rintro e w' ⟨rfl, rfl⟩))
    go_ret2
    exact ⟨rfl, HW.out⟩
/-- when -/
def whenV (timeout : Int) (x : Ho) : Int := if x.sick = true then tlate x.til timeout else x.til
theorem when_any (b g : Nat) (every timeout up down last : Int) (hs : List Ho) (w : World) (h : Hst 83 85 w b g every timeout up down last hs) (ht : 0 ≤ timeout ∧ timeout ≤ 1000000) (x : Ho) (t0 : 0 ≤ x.til) (t1 : x.til ≤ 4611686018427387904) :
    Calls Try.prog 42 #[.pointer (some ⟨b, 0, none⟩), .agg #[.bool x.sick, .bool x.out, .int .i64 x.til, .int .i64 x.row, .int .i64 x.times]] w fun e w' => e = .returned (.int .i64 (whenV timeout x)) ∧ Hid (Chg [] w w') := by
  obtain ⟨sick, out, til, row, times⟩ := x
  dsimp only at t0 t1
  have c1 := (h.num.alloc (.cells #[.bool sick, .bool out, .int .i64 til, .int .i64 row, .int .i64 times] 85)).cell 1 _ rfl
  have d2 := (Blk.new w [.bool sick, .bool out, .int .i64 til, .int .i64 row, .int .i64 times] 85).cell 2 _ rfl
  have HC := Lib.hid ((Chg.refl [] w).alloc (.cells #[.bool sick, .bool out, .int .i64 til, .int .i64 row, .int .i64 times] 85))
  obtain ⟨q0, q1⟩ := ht
  clear h
  unfold whenV
  cases sick
  · go_enter Try.func42, Try.ntmps42
    go_wp2_with fail
    go_ret
    exact ⟨by simp, HC.out⟩
  · go_enter Try.func42, Try.ntmps42
    go_wp2_with fail
    generalize w.alloc (.cells #[.bool true, .bool out, .int .i64 til, .int .i64 row, .int .i64 times] 85) = wa at *
    go_quiet ((go_at_call 34; exact quiet_same (add_ok til timeout t0 t1 (by omega) (by omega) _)))
    go_wp2_with fail
    go_ret
    exact ⟨by simp, HC.out.drewN _⟩
end Go.Proofs.Yteaepadamhmknaa
