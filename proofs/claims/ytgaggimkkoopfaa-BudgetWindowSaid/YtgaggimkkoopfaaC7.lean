/- BudgetWindow: a budget, and the two lists of moments that the law keeps beside it. -/
import Derived.Test.YtgaggimkkoopfaaC5
import Derived.Maps.AppendAt
import Derived.Deep.DeepCutAuto
namespace Go.Proofs.Ytgaggimkkoopfaa
open Go.RowKit
set_option linter.unusedVariables false

theorem RoW.narrow {w : World} {Q Q' : Nat → Prop} {v : Value} {zs : List Int} (h : RoW w Q v zs) (hq : ∀ g, v.ownBlock = some g → Q' g) : RoW w Q' v zs := ⟨h.1, hq⟩
/-- The budget at b, and two rows of the law's own, none of them in another's memory. -/
def WS (w0 : World) (b : Nat) (p m win now : Int) (vq vt : Value) (zq zt : List Int) (k : Nat) (w : World) : Prop :=
  ∃ last q t F, BSt w b p m win last q t F ∧ RoW w (fun g => w0.heap.size ≤ g ∧ g ∉ F) vq zq ∧ RoW w (fun g => w0.heap.size ≤ g ∧ g ∉ F) vt zt ∧ (vq.ownBlock = none ∨ vq.ownBlock ≠ vt.ownBlock) ∧ (∀ i, i ∈ F → w0.heap.size ≤ i) ∧ Chg [] w0 w ∧
    PR win last q zq ∧ PR win last t zt ∧ 0 ≤ last ∧ last ≤ now ∧ zq.length ≤ k ∧ zt.length ≤ k
section
variable {w0 w w' : World} {b : Nat} {p m win now : Int} {vq vt : Value} {zq zt : List Int} {k : Nat}
theorem WS.chg (h : WS w0 b p m win now vq vt zq zt k w) : Chg [] w0 w := by
  obtain ⟨last, q, t, F, h1, h2, h3, h4, h5, h6, h7⟩ := h
  exact h6
theorem WS.up (h : WS w0 b p m win now vq vt zq zt k w) {j : Nat} (hj : k ≤ j) : WS w0 b p m win now vq vt zq zt j w := by
  obtain ⟨last, q, t, F, h1, h2, h3, h4, h5, h6, h7, h8, h9, ha, hb, hc⟩ := h
  exact ⟨last, q, t, F, h1, h2, h3, h4, h5, h6, h7, h8, h9, ha, by omega, by omega⟩
theorem WS.later (h : WS w0 b p m win now vq vt zq zt k w) {n2 : Int} (hj : now ≤ n2) : WS w0 b p m win n2 vq vt zq zt k w := by
  obtain ⟨last, q, t, F, h1, h2, h3, h4, h5, h6, h7, h8, h9, ha, hb, hc⟩ := h
  exact ⟨last, q, t, F, h1, h2, h3, h4, h5, h6, h7, h8, h9, by omega, hb, hc⟩
theorem WS.still (h : WS w0 b p m win now vq vt zq zt k w) (hc : Chg [] w w') : WS w0 b p m win now vq vt zq zt k w' := by
  obtain ⟨last, q, t, F, h1, h2, h3, h4, h5, h6, h7, h8, h9, ha, hb, hd⟩ := h
  exact ⟨last, q, t, F, h1.frame hc (by simp), h2.kept (fun i _ hl => hc.block i hl (by simp)), h3.kept (fun i _ hl => hc.block i hl (by simp)), h4, h5, h6.trans hc (by simp), h7, h8, h9, ha, hb, hd⟩
theorem WS.rows (h : WS w0 b p m win now vq vt zq zt k w) : (∃ A cap, vq = .slice A zq.length cap) ∧ (∃ A cap, vt = .slice A zt.length cap) ∧ zq.length ≤ k ∧ zt.length ≤ k := by
  obtain ⟨last, q, t, F, h1, h2, h3, h4, h5, h6, h7, h8, h9, ha, hb, hc⟩ := h
  exact ⟨h2.slot.1, h3.slot.1, hb, hc⟩
/-- In the midst of a round: the budget is at now; what it counts is what the lists count. -/
def WM (w0 : World) (b : Nat) (p m win now : Int) (vq vt : Value) (zq zt : List Int) (k : Nat) (fq ft : Bool) (w : World) : Prop :=
  ∃ q t F, BSt w b p m win now (if fq then q ++ [now] else q) (if ft then t ++ [now] else t) F ∧ RoW w (fun g => w0.heap.size ≤ g ∧ g ∉ F) vq zq ∧ RoW w (fun g => w0.heap.size ≤ g ∧ g ∉ F) vt zt ∧ (vq.ownBlock = none ∨ vq.ownBlock ≠ vt.ownBlock) ∧ (∀ i, i ∈ F → w0.heap.size ≤ i) ∧ Chg [] w0 w ∧
    PR win now q zq ∧ PR win now t zt ∧ 0 ≤ now ∧ zq.length ≤ k ∧ zt.length ≤ k
theorem WS.mid (h : WS w0 b p m win now vq vt zq zt k w) {fn : Nat} {args : Array Value} {v : Value} (fq ft : Bool) (hnow : now ≤ 4611686018427387904) (g : Good p m win)
    (K : ∀ last q t q1 t1 F, BSt w b p m win last q t F → Num1 p m win last now now → lateL q (now - win) = q1 → lateL t (now - win) = t1 → q1.length = cnt zq (now - win) → t1.length = cnt zt (now - win) → Calls Try.prog fn args w (MovB b p m win now (if fq then q1 ++ [now] else q1) (if ft then t1 ++ [now] else t1) F v w)) :
    Calls Try.prog fn args w fun e w' => e = .returned v ∧ Hid (WM w0 b p m win now vq vt zq zt k fq ft w') := by
  obtain ⟨last, q, t, F, h1, h2, h3, h4, h5, h6, h7, h8, h9, ha, hb, hc⟩ := h
  have e1 := h7.brought ha
  have e2 := h8.brought ha
  have N : Num1 p m win last now now := ⟨g.1, g.2.1, g.2.2.2.2.1, g.2.2.2.2.2, h9, by omega, by omega, hnow, by omega⟩
  refine (K last q t _ _ F h1 N rfl rfl (by rw [e1, flt_len]) (by rw [e2, flt_len])).mono fun e w' ⟨he, F', g1, g2, g3⟩ => ⟨he, _, _, F', g1, ?_, ?_, h4, fun i hi => ?_, h6.trans g2 (fun i hi hlt => by have := h5 i hi; omega), h7.bring ha, h8.bring ha, by omega, hb, hc⟩
  · refine ((h2.narrow (Q' := fun g => (w0.heap.size ≤ g ∧ g ∉ F') ∧ g ∉ F) (fun g hg => ?_)).kept (fun i hi hl => g2.block i hl hi.2)).mono (fun i hi => hi.1)
    have := h2.2 g hg
    have hlt := (h2.1.lt g hg).2
    exact ⟨⟨this.1, fun hm => by rcases g3 g hm with hh | hh; exact this.2 hh; omega⟩, this.2⟩
  · refine ((h3.narrow (Q' := fun g => (w0.heap.size ≤ g ∧ g ∉ F') ∧ g ∉ F) (fun g hg => ?_)).kept (fun i hi hl => g2.block i hl hi.2)).mono (fun i hi => hi.1)
    have := h3.2 g hg
    have hlt := (h3.1.lt g hg).2
    exact ⟨⟨this.1, fun hm => by rcases g3 g hm with hh | hh; exact this.2 hh; omega⟩, this.2⟩
  · have := h6.size
    rcases g3 i hi with hh | hh
    · exact h5 i hh
    · omega
theorem WM.done (h : WM w0 b p m win now vq vt zq zt k false false w) : WS w0 b p m win now vq vt zq zt k w := by
  obtain ⟨q, t, F, h1, h2, h3, h4, h5, h6, h7, h8, h9, hb, hc⟩ := h
  exact ⟨now, q, t, F, h1, h2, h3, h4, h5, h6, h7, h8, h9, Int.le_refl _, hb, hc⟩
theorem WM.rows {fq ft : Bool} (h : WM w0 b p m win now vq vt zq zt k fq ft w) : RoSl w (fun _ => True) vq zq ∧ RoSl w (fun _ => True) vt zt ∧ w.ownsRow 0 3 1 vq zq.length (zq.map (Value.int .i64)) ∧ w.ownsRow 0 3 1 vt zt.length (zt.map (Value.int .i64)) ∧ Chg [] w0 w := by
  obtain ⟨q, t, F, h1, h2, h3, h4, h5, h6, h7⟩ := h
  exact ⟨h2.slot.2.mono (fun _ _ => trivial), h3.slot.2.mono (fun _ _ => trivial), h2.1, h3.1, h6⟩
theorem own_len {w : World} {v : Value} {q : List Int} {L : Int} (h : w.ownsRow 0 3 1 v (q.length + 1) (q.map (Value.int .i64) ++ [.int .i64 L])) : w.ownsRow 0 3 1 v (q ++ [L]).length ((q ++ [L]).map (Value.int .i64)) := by simpa using h
/-- The new moment, laid in a block of its own, is appended to the law's list too. -/
theorem WM.pushq (h : WM w0 b p m win now vq vt zq zt k true false w) (hw : 1 ≤ win) {T : Nat} {v' : Value} (hown : w'.ownsRow 0 3 1 v' (zq.length + 1) (zq.map (Value.int .i64) ++ [.int .i64 now])) (hg : (w.alloc (.cells #[.int .i64 now] T)).grownBy w' vq.ownBlock) (hat : v'.ownBlock = vq.ownBlock ∨ v'.ownBlock = some (w.alloc (.cells #[.int .i64 now] T)).heap.size) :
    Hid (WS w0 b p m win now v' vt (zq ++ [now]) zt (k + 1) w') := by
  obtain ⟨q, t, F, h1, h2, h3, h4, h5, h6, h7, h8, h9, hb, hc⟩ := h
  have hsz : (w.alloc (.cells #[.int .i64 now] T)).heap.size = w.heap.size + 1 := by simp
  have s6 := h6.size
  have hc2 : Chg vq.ownBlock.toList w w' := ((Chg.refl _ w).alloc _).grown hg (by intro i hi _; simp [hi])
  have hF : ∀ i, i ∈ F → i ∉ vq.ownBlock.toList := by
    intro i hi hm
    have := h2.2 i (by simpa using hm)
    exact this.2 hi
  have hin : ∀ g, v'.ownBlock = some g → w0.heap.size ≤ g ∧ g ∉ F := by
    intro g hgg
    rcases hat with hat | hat
    · exact h2.2 g (by rw [← hat]; exact hgg)
    · rw [hgg] at hat
      injection hat with hat
      refine ⟨by omega, fun hm => ?_⟩
      have := h1.lt g hm
      omega
  refine ⟨now, _, _, F, h1.frame hc2 (by simpa using hF), ⟨own_len hown, hin⟩, ?_, ?_, h5, h6.trans hc2 (fun i hi hlt => ?_), h7.push hw, h8, h9, Int.le_refl _, by simp; omega, by omega⟩
  · refine ((h3.narrow (Q' := fun g => (w0.heap.size ≤ g ∧ g ∉ F) ∧ g ∉ vq.ownBlock.toList) (fun g hgg => ⟨h3.2 g hgg, ?_⟩)).kept (fun i hi hl => hc2.block i hl hi.2)).mono (fun i hi => hi.1)
    intro hm
    have e : vq.ownBlock = some g := by simpa using hm
    rcases h4 with h4 | h4
    · rw [h4] at e; cases e
    · exact h4 (by rw [e, hgg])
  · rcases hat with hat | hat
    · rw [hat]; exact h4
    · right
      rw [hat]
      intro e
      have := (h3.1.lt _ e.symm).2
      omega
  · have := (h2.2 i (by simpa using hi)).1
    omega
theorem WM.pusht (h : WM w0 b p m win now vq vt zq zt k false true w) (hw : 1 ≤ win) {T : Nat} {v' : Value} (hown : w'.ownsRow 0 3 1 v' (zt.length + 1) (zt.map (Value.int .i64) ++ [.int .i64 now])) (hg : (w.alloc (.cells #[.int .i64 now] T)).grownBy w' vt.ownBlock) (hat : v'.ownBlock = vt.ownBlock ∨ v'.ownBlock = some (w.alloc (.cells #[.int .i64 now] T)).heap.size) :
    Hid (WS w0 b p m win now vq v' zq (zt ++ [now]) (k + 1) w') := by
  obtain ⟨q, t, F, h1, h2, h3, h4, h5, h6, h7, h8, h9, hb, hc⟩ := h
  have hsz : (w.alloc (.cells #[.int .i64 now] T)).heap.size = w.heap.size + 1 := by simp
  have s6 := h6.size
  have hc2 : Chg vt.ownBlock.toList w w' := ((Chg.refl _ w).alloc _).grown hg (by intro i hi _; simp [hi])
  have hF : ∀ i, i ∈ F → i ∉ vt.ownBlock.toList := by
    intro i hi hm
    have := h3.2 i (by simpa using hm)
    exact this.2 hi
  have hin : ∀ g, v'.ownBlock = some g → w0.heap.size ≤ g ∧ g ∉ F := by
    intro g hgg
    rcases hat with hat | hat
    · exact h3.2 g (by rw [← hat]; exact hgg)
    · rw [hgg] at hat
      injection hat with hat
      refine ⟨by omega, fun hm => ?_⟩
      have := h1.lt g hm
      omega
  have hne : ∀ g, vq.ownBlock = some g → vt.ownBlock ≠ some g := by
    intro g hgg e
    rcases h4 with h4 | h4
    · rw [h4] at hgg; cases hgg
    · exact h4 (by rw [e, hgg])
  refine ⟨now, _, _, F, h1.frame hc2 (by simpa using hF), ?_, ⟨own_len hown, hin⟩, ?_, h5, h6.trans hc2 (fun i hi hlt => ?_), h7, h8.push hw, h9, Int.le_refl _, by omega, by simp; omega⟩
  · refine ((h2.narrow (Q' := fun g => (w0.heap.size ≤ g ∧ g ∉ F) ∧ g ∉ vt.ownBlock.toList) (fun g hgg => ⟨h2.2 g hgg, ?_⟩)).kept (fun i hi hl => hc2.block i hl hi.2)).mono (fun i hi => hi.1)
    intro hm
    exact hne g hgg (by simpa using hm)
  · rcases hat with hat | hat
    · rw [hat]; exact h4
    · right
      rw [hat]
      intro e
      have := (h2.1.lt _ e).2
      omega
  · have := (h3.2 i (by simpa using hi)).1
    omega
end
end Go.Proofs.Ytgaggimkkoopfaa
