/- A block that holds a list of records, each of n cells. It speaks of no program. -/
import Derived.WalkKit
import Derived.Test.YteaepadamhmknaaK
set_option linter.unusedVariables false
namespace Go.Proofs.Yteaepadamhmknaa
open Go
theorem flat_len {α : Type} (c : α → List Value) (n : Nat) (hn : ∀ a, (c a).length = n) (hs : List α) : (hs.flatMap c).length = hs.length * n := by
  induction hs with
  | nil => simp
  | cons a hs ih => simp [List.flatMap_cons, ih, hn, Nat.succ_mul]; omega
theorem flat_get {α : Type} (c : α → List Value) (n : Nat) (hn : ∀ a, (c a).length = n) (hs : List α) (i j : Nat) (a : α) (hi : hs[i]? = some a) (hj : j < n) : (hs.flatMap c)[i * n + j]? = (c a)[j]? := by
  induction hs generalizing i with
  | nil => simp at hi
  | cons b hs ih =>
    rw [List.flatMap_cons]
    cases i with
    | zero =>
      obtain rfl : b = a := by simpa using hi
      rw [Nat.zero_mul, Nat.zero_add, List.getElem?_append_left (by rw [hn]; exact hj)]
    | succ i =>
      have hi' : hs[i]? = some a := by simpa using hi
      rw [List.getElem?_append_right (by rw [hn, Nat.succ_mul]; omega), hn, show (i + 1) * n + j - n = i * n + j by rw [Nat.succ_mul]; omega]
      exact ih i hi'
theorem flat_set {α : Type} (c : α → List Value) (n : Nat) (hn : ∀ a, (c a).length = n) (hs : List α) (i j : Nat) (a b : α) (v : Value) (hi : hs[i]? = some a) (hj : j < n) (hv : (c a).set j v = c b) : (hs.flatMap c).set (i * n + j) v = (hs.set i b).flatMap c := by
  induction hs generalizing i with
  | nil => simp at hi
  | cons x hs ih =>
    rw [List.flatMap_cons]
    cases i with
    | zero =>
      obtain rfl : x = a := by simpa using hi
      rw [Nat.zero_mul, Nat.zero_add, List.set_append_left _ _ (by rw [hn]; exact hj), hv, List.set_cons_zero, List.flatMap_cons]
    | succ i =>
      have hi' : hs[i]? = some a := by simpa using hi
      rw [List.set_append_right _ _ (by rw [hn, Nat.succ_mul]; omega), hn, show (i + 1) * n + j - n = i * n + j by rw [Nat.succ_mul]; omega, ih i hi', List.set_cons_succ, List.flatMap_cons]
/-- Block g holds the records hs. -/
def Recs {α : Type} (c : α → List Value) (w : World) (g : Nat) (T : Nat) (hs : List α) : Prop := Blk w g (hs.flatMap c) T
section
variable {α : Type} {c : α → List Value} {n : Nat} {w : World} {g T : Nat} {hs : List α}
theorem Recs.cell (h : Recs c w g T hs) (hn : ∀ a, (c a).length = n) {i : Nat} {a : α} (hi : hs[i]? = some a) (j : Nat) (v : Value) (hj : j < n) (hv : (c a)[j]? = some v) : w.cell? ⟨g, i * n + j, none⟩ = some v :=
  Blk.cell h _ v ((flat_get c n hn hs i j a hi hj).trans hv)
theorem Recs.set (h : Recs c w g T hs) (hn : ∀ a, (c a).length = n) {i : Nat} {a : α} (hi : hs[i]? = some a) (j : Nat) (v : Value) (b : α) (hj : j < n) (hv : (c a).set j v = c b) : Recs c (w.setCell ⟨g, i * n + j, none⟩ v) g T (hs.set i b) := by
  have := Blk.set h (i * n + j) v
  rw [flat_set c n hn hs i j a b v hi hj hv] at this
  exact this
end
end Go.Proofs.Yteaepadamhmknaa
