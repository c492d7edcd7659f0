/- BucketRate: the level is what was not taken of burst and rate. -/
import Derived.Test.YtaknohobpapmeaaS9
import Derived.Test.YtaknohobpapmeaaL
import Derived.Deep.DeepCutAuto
namespace Go.Proofs.Ytaknohobpapmeaa
open Go.RowKit
set_option linter.unusedVariables false

/-- The moments at which a token was taken; l is the level at the moment now. -/
structure Taken (r p f l now : Int) (zs : List Int) : Prop where
  lo : ∀ i, i < zs.length → 0 ≤ zs.getD i 0
  hi : ∀ i, i < zs.length → zs.getD i 0 ≤ now
  up : ∀ i k, i ≤ k → k < zs.length → zs.getD i 0 ≤ zs.getD k 0
  pot : ∀ i, i < zs.length → l + ((zs.length : Int) - i) * p ≤ f + r * (now - zs.getD i 0)
  rate : ∀ i k, i ≤ k → k < zs.length → ((k : Int) + 1 - i) * p ≤ f + r * (zs.getD k 0 - zs.getD i 0)
theorem Taken.nil (r p f l now : Int) : Taken r p f l now [] := ⟨by simp, by simp, by simp, by simp, by simp⟩
theorem Taken.bring {r p f l now n2 l2 : Int} {zs : List Int} (h : Taken r p f l now zs) (hn : now ≤ n2) (hl : l2 ≤ l + (n2 - now) * r) : Taken r p f l2 n2 zs := by
  refine ⟨h.lo, fun i hi => Int.le_trans (h.hi i hi) hn, h.up, fun i hi => ?_, h.rate⟩
  have h1 := h.pot i hi
  have e : r * (n2 - zs.getD i 0) = r * (now - zs.getD i 0) + (n2 - now) * r := by
    rw [Int.mul_comm (n2 - now) r, ← Int.mul_add]; congr 1; omega
  omega
theorem getD_left (zs : List Int) (x : Int) (i : Nat) (h : i < zs.length) : (zs ++ [x]).getD i 0 = zs.getD i 0 := by
  simp [List.getD_eq_getElem?_getD, List.getElem?_append_left h]
theorem getD_last (zs : List Int) (x : Int) : (zs ++ [x]).getD zs.length 0 = x := by
  simp [List.getD_eq_getElem?_getD]
theorem Taken.push {r p f l now : Int} {zs : List Int} (h : Taken r p f l now zs) (n0 : 0 ≤ now) (hf : l ≤ f) (hp : p ≤ l) : Taken r p f (l - p) now (zs ++ [now]) := by
  have key : ∀ i, i ≤ zs.length → (i < zs.length ∧ (zs ++ [now]).getD i 0 = zs.getD i 0) ∨ (i = zs.length ∧ (zs ++ [now]).getD i 0 = now) := by
    intro i hi
    by_cases c : i < zs.length
    · exact .inl ⟨c, getD_left zs now i c⟩
    · obtain rfl : i = zs.length := by omega
      exact .inr ⟨rfl, getD_last zs now⟩
  have hlen : (zs ++ [now]).length = zs.length + 1 := by simp
  have pot : ∀ i, i < zs.length + 1 → (l - p) + (((zs.length + 1 : Nat) : Int) - i) * p ≤ f + r * (now - (zs ++ [now]).getD i 0) := by
    intro i hi
    rcases key i (by omega) with ⟨c, e⟩ | ⟨c, e⟩
    · rw [e]
      have h1 := h.pot i c
      have e2 : (((zs.length + 1 : Nat) : Int) - i) * p = ((zs.length : Int) - i) * p + p := by
        rw [show (((zs.length + 1 : Nat) : Int) - i) = ((zs.length : Int) - i) + 1 by omega, Int.add_mul, Int.one_mul]
      omega
    · rw [e, c, show (((zs.length + 1 : Nat) : Int) - (zs.length : Nat)) = 1 by omega, Int.sub_self, Int.mul_zero, Int.one_mul]
      omega
  refine ⟨fun i hi => ?_, fun i hi => ?_, fun i k hik hk => ?_, fun i hi => ?_, fun i k hik hk => ?_⟩
  · rw [hlen] at hi
    rcases key i (by omega) with ⟨c, e⟩ | ⟨c, e⟩
    · rw [e]; exact h.lo i c
    · rw [e]; exact n0
  · rw [hlen] at hi
    rcases key i (by omega) with ⟨c, e⟩ | ⟨c, e⟩
    · rw [e]; exact h.hi i c
    · rw [e]; exact Int.le_refl _
  · rw [hlen] at hk
    rcases key k (by omega) with ⟨c, e⟩ | ⟨c, e⟩
    · rw [e, getD_left zs now i (by omega)]; exact h.up i k hik c
    · rw [e]
      rcases key i (by omega) with ⟨c2, e2⟩ | ⟨c2, e2⟩
      · rw [e2]; exact h.hi i c2
      · rw [e2]; exact Int.le_refl _
  · rw [hlen] at hi ⊢
    exact pot i hi
  · rw [hlen] at hk
    rcases key k (by omega) with ⟨c, e⟩ | ⟨c, e⟩
    · rw [e, getD_left zs now i (by omega)]; exact h.rate i k hik c
    · have h1 := pot i (by omega)
      rw [e]
      have e3 : ((k : Int) + 1 - i) = (((zs.length + 1 : Nat) : Int) - i) := by omega
      rw [e3]
      omega
/-- What the law asks of two takings. -/
theorem Taken.asks {r p u f l now : Int} {zs : List Int} (h : Taken r p f l now zs) (hp : 1 ≤ p) (hf : u * p = f) (i k : Nat) (hik : i ≤ k) (hk : k < zs.length) :
    ¬ (u + r * (zs.getD k 0 - zs.getD i 0) / p + 1 < (k : Int) - i + 1) := by
  have h1 := h.rate i k hik hk
  generalize r * (zs.getD k 0 - zs.getD i 0) = x at *
  have h2 : (k : Int) + 1 - i - u ≤ x / p := by
    refine Int.le_ediv_of_mul_le (by omega) ?_
    rw [Int.sub_mul, hf]
    omega
  omega
theorem brL_le (r f l a now : Int) (hr : 0 ≤ r) (h : a ≤ now) : brL r f l a now ≤ l + (now - a) * r := by
  have := Int.mul_nonneg (show 0 ≤ now - a by omega) hr
  unfold brL
  split
  · omega
  · unfold lev; split <;> omega
/-- The bucket and the law's list. -/
structure RSt (w0 : World) (b : Nat) (r p f l now : Int) (v : Value) (zs : List Int) (w : World) : Prop where
  blk : Blk w b [.int .i64 r, .int .i64 p, .int .i64 f, .int .i64 l, .int .i64 now] 54
  own : Own 3 w v zs
  ne : ∀ g, v.ownBlock = some g → w0.heap.size ≤ g ∧ g ≠ b
  n1 : w0.heap.size ≤ b
  chg : Chg [] w0 w
theorem RSt.call {w0 w : World} {b k : Nat} {r p f l now l2 n2 : Int} {v x : Value} {zs : List Int} {args : Array Value} (h : RSt w0 b r p f l now v zs w)
    (K : Blk w b [.int .i64 r, .int .i64 p, .int .i64 f, .int .i64 l, .int .i64 now] 54 → Calls Try.prog k args w fun e w' => e = .returned x ∧ Hid (Blk w' b [.int .i64 r, .int .i64 p, .int .i64 f, .int .i64 l2, .int .i64 n2] 54 ∧ Chg [b] w w')) :
    Calls Try.prog k args w fun e w' => e = .returned x ∧ Hid (RSt w0 b r p f l2 n2 v zs w') :=
  (K h.blk).mono fun e w' hh => ⟨hh.1, hh.2.out.1, h.own.chg hh.2.out.2 (fun g hg => by simpa using (h.ne g hg).2), h.ne, h.n1, h.chg.trans hh.2.out.2 (by intro i hi hlt; have := h.n1; simp at hi; omega)⟩
theorem RSt.push {w0 w w' : World} {b T : Nat} {r p f l now x : Int} {v v' : Value} {zs : List Int} (h : RSt w0 b r p f l now v zs w)
    (hown : w'.ownsRow 0 3 1 v' (zs.length + 1) (zs.map (Value.int .i64) ++ [.int .i64 x])) (hg : (w.alloc (.cells #[.int .i64 x] T)).grownBy w' v.ownBlock) (hat : v'.ownBlock = v.ownBlock ∨ v'.ownBlock = some (w.alloc (.cells #[.int .i64 x] T)).heap.size) :
    Hid (RSt w0 b r p f l now v' (zs ++ [x]) w') := by
  have hc : Chg v.ownBlock.toList w w' := ((Chg.refl _ w).alloc _).grown hg (by intro i hi _; simp [hi])
  have hsz : (w.alloc (.cells #[.int .i64 x] T)).heap.size = w.heap.size + 1 := by simp
  have s6 := h.chg.size
  refine ⟨h.blk.chg hc (fun hm => (h.ne b (by simpa using hm)).2 rfl), own_push hown, fun g hgg => ?_, h.n1, h.chg.trans hc (fun i hi hlt => ?_)⟩
  · rcases hat with hat | hat
    · exact h.ne g (by rw [← hat]; exact hgg)
    · rw [hgg] at hat
      injection hat with hat
      have := h.blk.lt
      omega
  · have := (h.ne i (by simpa using hi)).1
    omega
end Go.Proofs.Ytaknohobpapmeaa
