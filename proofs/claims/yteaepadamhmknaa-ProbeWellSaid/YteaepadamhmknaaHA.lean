/- The reference's New; two lists of ints compared; two sets side by side. -/
import Derived.Test.YteaepadamhmknaaH7
namespace Go.Proofs.Yteaepadamhmknaa
open Go.RowKit
set_option linter.unusedVariables false

theorem info79 : (Try.prog.info? 79).map (fun i => (i.zero, i.size, i.bytes)) = some (some (.agg #[.bool false, .bool false, .int .i64 0, .int .i64 0, .int .i64 0]), 5, 32) := by kernel_rfl
set_option maxHeartbeats 1000000 in
theorem rnew_ok (m : Nat) (fails base long share : Int) (w : World) (h : Good m fails base long share) :
    Calls Try.prog 22 #[.int .i64 m, .int .i64 fails, .int .i64 base, .int .i64 long, .int .i64 share] w (Made 73 79 m fails base long share w) := by
  obtain ⟨h1, h2, h3, h4, h5, h6, h7, h8, h9, ha⟩ := h
  obtain ⟨i0, hi, hz0, hz1, hz2⟩ := info_parts info79
  have HI := Lib.hid (And.intro hi (And.intro hz0 (And.intro hz1 hz2)))
  clear hi hz0 hz1 hz2
  go_enter Try.func22, Try.ntmps22
  go_wp2_with (at_make; refine wpList_make_full _ rfl _ _ 71 rfl 0 79 i0 (.agg #[.bool false, .bool false, .int .i64 0, .int .i64 0, .int .i64 0]) 5 Try.underlying71 HI.out.1 HI.out.2.1 HI.out.2.2.1 .i64 .i64 m m m rfl rfl rfl rfl (by rw [HI.out.2.2.2]; omega) (by unfold maxLen; omega) (Nat.zero_le _) ?_; intro w1 hown hgrow)
  go_ret2
  rw [made m] at hown
  have hc : Chg [] w w1 := (Chg.refl _ w).grown hgrow (by simp)
  have hb := row_blk hown
  refine ⟨w1.heap.size, w.heap.size, rfl, hc.size, Nat.le_refl _, ⟨?_, hb.alloc _, ?_⟩, hc.alloc _⟩
  · rw [List.length_replicate]
    exact Blk.new w1 [.int .i64 fails, .int .i64 base, .int .i64 long, .int .i64 share, .int .i64 0, .slice (some ⟨w.heap.size, 0, none⟩) m m] 73
  · have := hb.lt
    omega
theorem rnew_bad (m fails base long share : Int) (h : ¬ Good m fails base long share) (w : World) : Calls Try.prog 22 #[.int .i64 m, .int .i64 fails, .int .i64 base, .int .i64 long, .int .i64 share] w fun e w' => e = .returned (.tuple #[.pointer none, .int .i64 1]) ∧ w = w' := by
  by_cases k0 : m < 1
  · clear h
    go_enter Try.func22, Try.ntmps22
    go_wp2
    go_ret2
    exact ⟨rfl, rfl⟩
  by_cases k1 : 16 < m
  · clear h
    go_enter Try.func22, Try.ntmps22
    go_wp2
    go_ret2
    exact ⟨rfl, rfl⟩
  by_cases k2 : fails < 0
  · clear h
    go_enter Try.func22, Try.ntmps22
    go_wp2
    go_ret2
    exact ⟨rfl, rfl⟩
  by_cases k3 : 1000 < fails
  · clear h
    go_enter Try.func22, Try.ntmps22
    go_wp2
    go_ret2
    exact ⟨rfl, rfl⟩
  by_cases k4 : base < 1
  · clear h
    go_enter Try.func22, Try.ntmps22
    go_wp2
    go_ret2
    exact ⟨rfl, rfl⟩
  by_cases k5 : 1000000 < base
  · clear h
    go_enter Try.func22, Try.ntmps22
    go_wp2
    go_ret2
    exact ⟨rfl, rfl⟩
  by_cases k6 : long < base
  · clear h
    go_enter Try.func22, Try.ntmps22
    go_wp2
    go_ret2
    exact ⟨rfl, rfl⟩
  by_cases k7 : 1000000 < long
  · clear h
    go_enter Try.func22, Try.ntmps22
    go_wp2
    go_ret2
    exact ⟨rfl, rfl⟩
  by_cases k8 : share < 0
  · clear h
    go_enter Try.func22, Try.ntmps22
    go_wp2
    go_ret2
    exact ⟨rfl, rfl⟩
  by_cases k9 : 100 < share
  · clear h
    go_enter Try.func22, Try.ntmps22
    go_wp2
    go_ret2
    exact ⟨rfl, rfl⟩
  exact absurd (by unfold Good; omega) h
theorem Ints.chg {F : List Nat} {w w' : World} {k : IntKind} {a : Option Addr} {n : Nat} {zs : List Int} (h : Ints w k a n zs) (hc : Chg F w w') (hF : ∀ x, a = some x → x.block ∉ F) : Ints w' k a n zs := by
  refine ⟨h.1, fun hn => ?_⟩
  obtain ⟨x, hx, hcell⟩ := h.2 hn
  exact ⟨x, hx, fun i hi => hc.cell (hcell i hi) (by rw [show (x.add i).block = x.block by unfold Addr.add; split <;> rfl]; exact hF x hx)⟩
theorem Own.ints {T : Nat} {w : World} {v : Value} {zs : List Int} (h : Own T w v zs) : ∃ A c, v = .slice A zs.length c ∧ Ints w .i64 A zs.length zs ∧ ∀ x, A = some x → v.ownBlock = some x.block := by
  by_cases hz : 0 < zs.length
  · obtain ⟨g, cap, e, hc⟩ := h.cell hz
    exact ⟨_, cap, e, ⟨rfl, fun _ => ⟨⟨g, 0, none⟩, rfl, fun i hi => by rw [show (⟨g, 0, none⟩ : Addr).add i = ⟨g, i, none⟩ by unfold Addr.add; split <;> simp [*]]; exact hc i hi⟩⟩, fun x hx => by injection hx with hx; subst hx; rw [e]; rfl⟩
  · obtain ⟨A, cap, e⟩ := h.form
    refine ⟨A, cap, e, ⟨rfl, fun h => absurd h hz⟩, fun x hx => ?_⟩
    rcases h.2 with ⟨e2, h0⟩ | ⟨g, cap2, cur, e2, _⟩
    · rw [e2] at e
      injection e with e3
      rw [← e3] at hx
      cases hx
    · rw [e2] at e
      injection e with e3
      rw [← e3] at hx
      injection hx with hx
      subst hx
      rw [e2]; rfl
set_option maxHeartbeats 2000000 in
theorem ints_same (A B : Option Addr) (n c d : Nat) (zs : List Int) (w : World) (ha : Ints w .i64 A n zs) (hb : Ints w .i64 B n zs) (hn : n ≤ 16) :
    Calls Try.prog 19 #[.slice A n c, .slice B n d] w fun e w' => e = .returned (.bool true) ∧ Hid (Chg [] w w') := by
  have HA := Lib.hid ha
  have HB := Lib.hid hb
  have hn2 : (n : Int) ≤ 16 := by omega
  clear ha hb
  go_enter Try.func19, Try.ntmps19
  go_wp2
  go_loopw [13] (fun i wr => ∃ (k : Nat), k ≤ n ∧ i = .int .i64 k ∧ Hid (Chg [] w wr)) (fun i _ => n - (intOf i).toNat)
  case atStart => exact ⟨0, by omega, rfl, Chg.refl _ _⟩
  case round =>
    obtain ⟨k, hk, rfl, HC⟩ := hrel
    by_cases hlt : k < n
    · obtain ⟨x, rfl, hx⟩ := (HA.out.chg HC.out (by simp)).2 (by omega)
      obtain ⟨y, rfl, hy⟩ := (HB.out.chg HC.out (by simp)).2 (by omega)
      have cx := hx k hlt
      have cy := hy k hlt
      clear hx hy
      have hlt2 : (k : Int) < (n : Int) := by omega
      go_wp2
      go_quiet (fail)
      go_wp2
      go_roundw
      case rel => exact ⟨k + 1, by omega, by go_num, HC.out.drewN _⟩
      case measure => simp [intOf]; omega
    · go_wp2
      go_ret
      exact ⟨rfl, HC.out⟩
end Go.Proofs.Yteaepadamhmknaa
