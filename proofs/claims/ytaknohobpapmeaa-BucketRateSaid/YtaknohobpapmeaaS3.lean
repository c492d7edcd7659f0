/- The reference's bucket: brought to a moment, how many tokens there are, the taking of one. -/
import Derived.Test.YtaknohobpapmeaaS2
namespace Go.Proofs.Ytaknohobpapmeaa
open Go.RowKit
set_option linter.unusedVariables false

/-- The reference's numbers: full is burst times per. -/
structure RNum (r p u f l a : Int) : Prop where
  num : Num r p f l a
  u0 : 0 ≤ u
  u1 : u ≤ 1000000
  full : u * p = f
theorem RNum.bring {r p u f l a now : Int} (h : RNum r p u f l a) (n1 : now ≤ 4611686018427387904) : RNum r p u f (brL r f l a now) (brA a now) := ⟨h.num.bring n1, h.u0, h.u1, h.full⟩
theorem lev_cap (r f l g : Int) (hr : 0 ≤ r) (hf : 0 ≤ f) (h0 : 0 ≤ l) (h1 : l ≤ f) (hg : f < g) : lev r f l f = lev r f l g := by
  unfold lev
  by_cases hr0 : r = 0
  · subst hr0; simp
  · have e1 : f * 1 ≤ f * r := Int.mul_le_mul_of_nonneg_left (by omega) hf
    have e2 : g * 1 ≤ g * r := Int.mul_le_mul_of_nonneg_left (by omega) (by omega)
    rw [if_pos (show f < l + g * r by omega)]
    split <;> omega
set_option maxHeartbeats 4000000 in
set_option maxRecDepth 100000 in
theorem rbring_any (b : Nat) (r p u f l a now : Int) (w : World) (h : Blk w b [.int .i64 r, .int .i64 p, .int .i64 u, .int .i64 l, .int .i64 a] 56) (N : RNum r p u f l a) (n0 : 0 ≤ now) (n1 : now ≤ 4611686018427387904) :
    Calls Try.prog 26 #[.pointer (some ⟨b, 0, none⟩), .int .i64 now] w fun e w' => e = .returned (.tuple #[]) ∧ Hid (Blk w' b [.int .i64 r, .int .i64 p, .int .i64 u, .int .i64 (brL r f l a now), .int .i64 (brA a now)] 56 ∧ Chg [b] w w') := by
  obtain ⟨⟨h1, h2, h3, h4, h5, h6, h7, h8, h9, ha⟩, u0, u1, hful⟩ := N
  have c0 := h.cell 0 _ rfl
  have c1 := h.cell 1 _ rfl
  have c2 := h.cell 2 _ rfl
  have c3 := h.cell 3 _ rfl
  have c4 := h.cell 4 _ rfl
  have f3 := h.free 3
  have f4 := h.free 4
  have HB := Lib.hid h
  clear h
  by_cases hle : now ≤ a
  · have e1 : brL r f l a now = l := by unfold brL; rw [if_pos hle]
    have e2 : brA a now = a := by unfold brA; rw [if_pos hle]
    rw [e1, e2]
    clear e1 e2
    go_enter Try.func26, Try.ntmps26
    go_wp2
    (refine bodyPost_ret (results_none rfl _ _ _) rfl ?_)
    exact ⟨rfl, HB.out, Chg.refl _ _⟩
  have e1 : brL r f l a now = lev r f l (now - a) := by unfold brL; rw [if_neg hle]
  have e2 : brA a now = now := by unfold brA; rw [if_neg hle]
  rw [e1, e2]
  clear e1 e2
  have hwf : IntKind.i64.wrap (u * p) = f := by rw [hful]; exact IntWalk.i64_in _ (by omega)
  clear hful
  obtain ⟨g, hg, g0, g1, eg⟩ : ∃ g, ((f < now - a ∧ g = f) ∨ (¬ f < now - a ∧ g = now - a)) ∧ 0 ≤ g ∧ g ≤ 1000000000000 ∧ lev r f l (now - a) = lev r f l g := by
    by_cases c : f < now - a
    · exact ⟨f, .inl ⟨c, rfl⟩, by omega, by omega, (lev_cap r f l _ h1 h5 h7 h8 c).symm⟩
    · exact ⟨now - a, .inr ⟨c, rfl⟩, by omega, by omega, rfl⟩
  rw [eg]
  clear eg
  have hm0 : 0 ≤ g * r := Int.mul_nonneg g0 h1
  have hm1 : g * r ≤ 1000000000000 * 1000000 := Int.mul_le_mul g1 h2 h1 (by omega)
  have hwr2 : IntKind.i64.wrap (g * r) = g * r := IntWalk.i64_in _ (by omega)
  have hwr3 : IntKind.i64.wrap (l + g * r) = l + g * r := IntWalk.i64_in _ (by omega)
  unfold lev
  by_cases hlt : f < l + g * r
  · rw [if_pos hlt]
    rcases hg with ⟨cg, rfl⟩ | ⟨cg, rfl⟩
    all_goals
      go_enter Try.func26, Try.ntmps26
      go_wp2
      go_quiet (fail)
      go_wp2
      have HW := Lib.hid (show Blk (w.drewN nq) b [.int .i64 r, .int .i64 p, .int .i64 u, .int .i64 l, .int .i64 a] 56 ∧ Chg [b] w (w.drewN nq) from ⟨HB.out.drewN nq, (Chg.refl _ _).drewN nq⟩)
      generalize w.drewN nq = w2 at *
      have c3' := HW.out.1.cell 3 _ rfl
      have c0' := HW.out.1.cell 0 _ rfl
      clear c0 c1 c2 c3 c4 f3 f4
      go_still_tail 12, (by kernel_rfl)
      change wpList _ _ _ _ _ w2.drew
      have HX := Lib.hid (show Blk w2.drew b [.int .i64 r, .int .i64 p, .int .i64 u, .int .i64 l, .int .i64 a] 56 ∧ Chg [b] w w2.drew from ⟨HW.out.1.kept rfl, HW.out.2.drew⟩)
      have f3'' := HX.out.1.free 3
      have c3'' := HX.out.1.cell 3 _ rfl
      have f4'' := HX.out.1.free 4
      have c4'' := HX.out.1.cell 4 _ rfl
      clear c3' c0'
      generalize w2.drew = w3 at *
      go_wp2
      go_end0
      exact ⟨rfl, ((HX.out.1.set 3 _).set 3 _).set 4 _, ((HX.out.2.setCell (by simp) _).setCell (by simp) _).setCell (by simp) _⟩
  · rw [if_neg hlt]
    rcases hg with ⟨cg, rfl⟩ | ⟨cg, rfl⟩
    all_goals
      go_enter Try.func26, Try.ntmps26
      go_wp2
      go_quiet (fail)
      go_wp2
      have HW := Lib.hid (show Blk (w.drewN nq) b [.int .i64 r, .int .i64 p, .int .i64 u, .int .i64 l, .int .i64 a] 56 ∧ Chg [b] w (w.drewN nq) from ⟨HB.out.drewN nq, (Chg.refl _ _).drewN nq⟩)
      generalize w.drewN nq = w2 at *
      have c3' := HW.out.1.cell 3 _ rfl
      have c0' := HW.out.1.cell 0 _ rfl
      clear c0 c1 c2 c3 c4 f3 f4
      go_still_tail 12, (by kernel_rfl)
      change wpList _ _ _ _ _ w2.drew
      have HX := Lib.hid (show Blk w2.drew b [.int .i64 r, .int .i64 p, .int .i64 u, .int .i64 l, .int .i64 a] 56 ∧ Chg [b] w w2.drew from ⟨HW.out.1.kept rfl, HW.out.2.drew⟩)
      have f3'' := HX.out.1.free 3
      have c3'' := HX.out.1.cell 3 _ rfl
      have f4'' := HX.out.1.free 4
      have c4'' := HX.out.1.cell 4 _ rfl
      clear c3' c0'
      generalize w2.drew = w3 at *
      go_wp2
      go_end0
      exact ⟨rfl, (HX.out.1.set 3 _).set 4 _, (HX.out.2.setCell (by simp) _).setCell (by simp) _⟩
end Go.Proofs.Ytaknohobpapmeaa
