/- A budget's state in memory, and what its methods do to it. -/
import Derived.Test.YtgaggimkkoopfaaB1
import Derived.Test.YtgaggimkkoopfaaR
namespace Go.Proofs.Ytgaggimkkoopfaa
open Go.RowKit
set_option linter.unusedVariables false

theorem still_of {P : Program} {k : Nat} {args : Array Value} {w : World} {v : Value} (h : Calls P k args w fun e w' => e = .returned v ∧ w = w') : Calls P k args w fun e w' => e = .returned v ∧ w' = w := h.mono fun _ _ ⟨h1, h2⟩ => ⟨h1, h2.symm⟩
/-- Block b is a budget with these numbers and moments; all its memory lies in the blocks of F. -/
structure BSt (w : World) (b : Nat) (p m win last : Int) (rq rt : List Int) (F : List Nat) : Prop where
  mem : b ∈ F
  lt : ∀ i, i ∈ F → i < w.heap.size
  blk : ∃ v1 v2, Blk w b [.int .i64 p, .int .i64 m, .int .i64 win, .int .i64 last, v1, v2] 68 ∧ RoSl w (fun i => i ∈ F ∧ i ≠ b) v1 rq ∧ RoSl w (fun i => i ∈ F ∧ i ≠ b) v2 rt
/-- .. and its lists have no room behind their elements. -/
structure BTi (w : World) (b : Nat) (p m win last : Int) (rq rt : List Int) (F : List Nat) : Prop where
  mem : b ∈ F
  lt : ∀ i, i ∈ F → i < w.heap.size
  blk : ∃ v1 v2, Blk w b [.int .i64 p, .int .i64 m, .int .i64 win, .int .i64 last, v1, v2] 68 ∧ RoTi w (fun i => i ∈ F ∧ i ≠ b) v1 rq ∧ RoTi w (fun i => i ∈ F ∧ i ≠ b) v2 rt
theorem BTi.st {w : World} {b : Nat} {p m win last : Int} {rq rt : List Int} {F : List Nat} (h : BTi w b p m win last rq rt F) : BSt w b p m win last rq rt F := by
  obtain ⟨h1, h2, v1, v2, h3, h4, h5⟩ := h
  exact ⟨h1, h2, v1, v2, h3, h4.1, h5.1⟩
theorem BSt.frame {w w' : World} {b : Nat} {p m win last : Int} {rq rt : List Int} {F F' : List Nat} (h : BSt w b p m win last rq rt F) (hc : Chg F' w w') (hd : ∀ i, i ∈ F → i ∉ F') : BSt w' b p m win last rq rt F := by
  obtain ⟨h1, h2, v1, v2, h3, h4, h5⟩ := h
  exact ⟨h1, fun i hi => Nat.lt_of_lt_of_le (h2 i hi) hc.size, v1, v2, h3.chg hc (hd b h1), h4.kept (fun i hi hl => hc.block i hl (hd i hi.1)), h5.kept (fun i hi hl => hc.block i hl (hd i hi.1))⟩
def Brought (b : Nat) (p m win last : Int) (rq rt : List Int) (F : List Nat) (w : World) (e : Ending) (w' : World) : Prop :=
  e = .returned (.tuple #[]) ∧ BTi w' b p m win last rq rt F ∧ Chg [b] w w'
set_option maxHeartbeats 2000000 in
set_option maxRecDepth 100000 in
theorem bring_any (b : Nat) (p m win last now L : Int) (rq rt : List Int) (F : List Nat) (w : World) (h : BSt w b p m win last rq rt F) (h0 : 0 ≤ last) (h1 : last ≤ 4611686018427387904) (n0 : 0 ≤ now) (n1 : now ≤ 4611686018427387904) (w0 : 0 ≤ win) (w1 : win ≤ 1000000) (hL : (L = now ∧ last < now) ∨ (L = last ∧ now ≤ last)) :
    Calls Try.prog 39 #[.pointer (some ⟨b, 0, none⟩), .int .i64 now] w (Brought b p m win L (lateL rq (L - win)) (lateL rt (L - win)) F w) := by
  rcases hL with ⟨rfl, hlt⟩ | ⟨rfl, hlt⟩
  all_goals
    obtain ⟨hmem, hltF, v1, v2, hb, hr1, hr2⟩ := h
    have c3 := hb.cell 3 _ rfl
    have f3 := hb.free 3
    have hb1 : Blk (w.setCell ⟨b, 3, none⟩ (.int .i64 L)).drew b [.int .i64 p, .int .i64 m, .int .i64 win, .int .i64 L, v1, v2] 68 := (hb.set 3 (.int .i64 L)).kept rfl
    have hr1' : RoSl (w.setCell ⟨b, 3, none⟩ (.int .i64 L)).drew (fun i => i ∈ F ∧ i ≠ b) v1 rq := hr1.kept (fun i hi _ => Below.heap_setCell _ _ _ _ (by simpa using hi.2))
    have hr2' : RoSl (w.setCell ⟨b, 3, none⟩ (.int .i64 L)).drew (fun i => i ∈ F ∧ i ≠ b) v2 rt := hr2.kept (fun i hi _ => Below.heap_setCell _ _ _ _ (by simpa using hi.2))
    have hc1 : Chg [b] w (w.setCell ⟨b, 3, none⟩ (.int .i64 L)).drew := ((Chg.refl [b] w).setCell (by simp) _).drew
    have HG := Lib.hid (And.intro hb1 (And.intro hr1' (And.intro hr2' hc1)))
    have HF := Lib.hid hltF
    clear hltF hb1 hr1' hr2' hc1 hr1 hr2 hb
    go_enter Try.func39, Try.ntmps39
    go_wp2
    refine wp_region_any (by kernel_rfl) ?_
    change wpAny _ _ _ _ _ _ _ (w.setCell ⟨b, 3, none⟩ (.int .i64 L)).drew
    generalize (w.setCell ⟨b, 3, none⟩ (.int .i64 L)).drew = w2 at *
    obtain ⟨hb1, hr1, hr2, hc1⟩ := HG.out
    clear HG c3 f3
    have c2 := hb1.cell 2 _ rfl
    have c3 := hb1.cell 3 _ rfl
    have c4 := hb1.cell 4 _ rfl
    have c5 := hb1.cell 5 _ rfl
    have f4 := hb1.free 4
    have f5 := hb1.free 5
    have k1 := late_any v1 rq (fun i => i ∈ F ∧ i ≠ b) (L - win) w2 hr1
    have k2 := late_any v2 rt (fun i => i ∈ F ∧ i ≠ b) (L - win) w2 hr2
    have h1' := lateV_ti hr1 (L - win)
    have h2' := lateV_ti hr2 (L - win)
    obtain ⟨A1, e1⟩ := h1'.2
    obtain ⟨A2, e2⟩ := h2'.2
    rw [e1] at k1 h1'
    rw [e2] at k2 h2'
    clear e1 e2
    have K1 := Lib.hid (still_of k1)
    have K2 := Lib.hid (still_of k2)
    have H1 := Lib.hid h1'
    have H2 := Lib.hid h2'
    have HB1 := Lib.hid hb1
    have HC1 := Lib.hid hc1
    clear k1 k2 h1' h2' hb1 hr1 hr2 hc1
    have hwr : IntKind.i64.wrap (L - win) = L - win := IntWalk.i64_in _ (by omega)
    refine wpAny_take (i := 1) (v := .pointer (some ⟨b, 0, none⟩)) rfl (by kernel_rfl) (by kernel_rfl) (by kernel_rfl) (fun _ _ _ h => h) (Or.inl ⟨by rfl, ?_⟩) ?_
    · intro w; go_simp
    refine wpAny_tail_from 30 [1] [0, 2, 3, 4, 5, 6, 7, 8, 9, 10, 11, 12, 13, 14, 15, 16, 17, 18, 19, 20, 21, 22, 23, 24, 25, 26, 27, 28, 29] _ _ rfl (by kernel_rfl) rfl ?_
    simp only [List.map_cons, List.map_nil, List.getD_cons_succ, List.getD_cons_zero, List.drop_succ_cons, List.drop_zero]
    repeat (first | still_step | (refine wpStill_step (fun K hK => ?_); go_simp; (with_reducible refine ⟨_, K1.out, ?_⟩); refine hK _ ?_; clear hK K) | (refine wpStill_step (fun K hK => ?_); go_simp; (with_reducible refine ⟨_, K2.out, ?_⟩); refine hK _ ?_; clear hK K))
    refine wpStill_nil ?_
    go_wp2
    go_end0
    obtain ⟨⟨g1, _⟩, g2⟩ := And.intro H1.out H2.out
    refine ⟨rfl, ⟨hmem, fun i hi => ?_, _, _, (HB1.out.set 4 _).set 5 _, ?_, ?_⟩, (HC1.out.setCell (by simp) _).setCell (by simp) _⟩
    · have h1 := HC1.out.size
      have h2 := HF.out i hi
      simp
      omega
    · exact (H1.out.kept (fun i hi _ => Below.heap_setCell _ _ _ _ (by simpa using hi.2))).kept (fun i hi _ => Below.heap_setCell _ _ _ _ (by simpa using hi.2))
    · exact (H2.out.kept (fun i hi _ => Below.heap_setCell _ _ _ _ (by simpa using hi.2))).kept (fun i hi _ => Below.heap_setCell _ _ _ _ (by simpa using hi.2))
end Go.Proofs.Ytgaggimkkoopfaa
