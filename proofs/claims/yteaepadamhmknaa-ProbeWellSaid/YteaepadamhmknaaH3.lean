/- A set of hosts is brought to a moment: who is restored. -/
import Derived.Test.YteaepadamhmknaaH2
namespace Go.Proofs.Yteaepadamhmknaa
open Go.RowKit
set_option linter.unusedVariables false

/-- Is a host restored at L? -/
def Ho.due (L : Int) (x : Ho) : Bool := x.out && decide (x.til ≤ L)
/-- .. and what it is then. -/
def Ho.rst (L : Int) (x : Ho) : Ho := if x.due L = true then ⟨x.sick, false, x.til, 0, x.times⟩ else x
/-- The numbers of those that are restored, the first of the list being number o. -/
def dueI (L : Int) : List Ho → Nat → List Int
  | [], _ => []
  | x :: hs, o => if x.due L = true then (o : Int) :: dueI L hs (o + 1) else dueI L hs (o + 1)
theorem dueI_snoc (L : Int) (hs : List Ho) (x : Ho) (o : Nat) : dueI L (hs ++ [x]) o = dueI L hs o ++ if x.due L = true then [((o + hs.length : Nat) : Int)] else [] := by
  induction hs generalizing o with
  | nil => simp [dueI]
  | cons y hs ih =>
    rw [List.cons_append]
    unfold dueI
    rw [ih (o + 1)]
    have e : o + 1 + hs.length = o + (y :: hs).length := by simp; omega
    rw [e]
    split <;> simp
theorem dueI_len (L : Int) (hs : List Ho) (o : Nat) : (dueI L hs o).length ≤ hs.length := by
  induction hs generalizing o with
  | nil => simp [dueI]
  | cons y hs ih =>
    unfold dueI
    have := ih (o + 1)
    split <;> simp <;> omega
/-- The hosts, the first k of them brought to L. -/
def part (L : Int) (hs : List Ho) (k : Nat) : List Ho := (hs.take k).map (Ho.rst L) ++ hs.drop k
theorem part_len (L : Int) (hs : List Ho) (k : Nat) : (part L hs k).length = hs.length := by
  unfold part; simp; omega
theorem part_zero (L : Int) (hs : List Ho) : part L hs 0 = hs := by simp [part]
theorem part_all (L : Int) (hs : List Ho) : part L hs hs.length = hs.map (Ho.rst L) := by simp [part]
theorem part_get (L : Int) (hs : List Ho) (k : Nat) (x : Ho) (h : hs[k]? = some x) : (part L hs k)[k]? = some x := by
  have hk := (List.getElem?_eq_some_iff.1 h).1
  unfold part
  rw [List.getElem?_append_right (by simp; omega), List.getElem?_drop]
  simp
  rw [show k + (k - min k hs.length) = k by omega]
  exact h
theorem part_succ (L : Int) (hs : List Ho) (k : Nat) (x : Ho) (h : hs[k]? = some x) : part L hs (k + 1) = (part L hs k).set k (x.rst L) := by
  have hk := (List.getElem?_eq_some_iff.1 h).1
  have hd : hs.drop k = x :: hs.drop (k + 1) := by
    have e : x = hs[k] := (List.getElem?_eq_some_iff.1 h).2.symm
    rw [e]
    exact List.drop_eq_getElem_cons hk
  unfold part
  rw [take_snoc hs k x h, hd, List.map_append, List.set_append_right _ _ (by simp; omega), List.length_map, List.length_take, show k - min k hs.length = 0 by omega, List.set_cons_zero]
  simp
end Go.Proofs.Yteaepadamhmknaa
