/- Layer 13 (config): tables in memory; numbers in their ranges. -/
import Derived.Test.YtjndgkbikhndoaaGreatDoorProg
import Derived.Test.YtjndgkbikhndoaaGreatDoorK
import Derived.WalkKit
import Derived.Lib.Hide
import Derived.BigQuiet
import Derived.Shelf.Abstract
namespace Go.Proofs.YtjndgkbikhndoaaGreatDoor
open Go.RowKit Go.ChangeShapes Go.WideShapes
set_option linter.unusedVariables false

/-- A slice whose elements take k cells each. -/
def Tbl (w : World) (v : Value) (k : Nat) (rows : List (List Value)) : Prop :=
  ∃ A cap, v = .slice A rows.length cap ∧ rows.length ≤ cap ∧ (0 < rows.length → ∃ b off, A = some ⟨b, off, none⟩ ∧ b < w.heap.size ∧ ∀ i r, rows[i]? = some r → ∀ j x, r[j]? = some x → w.cell? ⟨b, off + i * k + j, none⟩ = some x)
theorem Tbl.chg {w w' : World} {v : Value} {k : Nat} {rows : List (List Value)} (h : Tbl w v k rows) (hc : Chg [] w w') : Tbl w' v k rows := by
  obtain ⟨A, cap, h1, h2, h3⟩ := h
  refine ⟨A, cap, h1, h2, fun h0 => ?_⟩
  obtain ⟨b, off, e, hb, hx⟩ := h3 h0
  exact ⟨b, off, e, Nat.lt_of_lt_of_le hb hc.size, fun i r hr j x hj => hc.cell (hx i r hr j x hj) (by simp)⟩
def inR (n a b : Int) : Bool := decide (a ≤ n) && decide (n ≤ b)
def allR (l : List (Int × Int × Int)) : Bool := l.all (fun x => inR x.1 x.2.1 x.2.2)
def strRows (ts : List ByteArray) : List (List Value) := ts.map (fun t => [.string t])
def intRows (zs : List Int) : List (List Value) := zs.map (fun z => [.int .i64 z])
def spanRows (l : List (Int × Int × Int)) : List (List Value) := l.map (fun x => [.int .i64 x.1, .int .i64 x.2.1, .int .i64 x.2.2])
theorem Tbl.at3 {w : World} {A : Option Addr} {n cap : Nat} {rows : List (List Value)} (h : Tbl w (.slice A n cap) 3 rows) (h0 : 0 < rows.length) : ∃ b off, A = some ⟨b, off, none⟩ ∧ b < w.heap.size ∧ ∀ i x y z, rows[i]? = some [x, y, z] → w.cell? ⟨b, off + i * 3, none⟩ = some x ∧ w.cell? ⟨b, off + i * 3 + 1, none⟩ = some y ∧ w.cell? ⟨b, off + i * 3 + 2, none⟩ = some z := by
  obtain ⟨A, cap, e, hcap, h3⟩ := h
  injection e with e1 e2 e3
  subst e1
  obtain ⟨b, off, rfl, hb, hx⟩ := h3 h0
  exact ⟨b, off, rfl, hb, fun i x y z hr => ⟨hx i _ hr 0 x rfl, hx i _ hr 1 y rfl, hx i _ hr 2 z rfl⟩⟩
theorem Tbl.at1 {w : World} {A : Option Addr} {n cap : Nat} {rows : List (List Value)} (h : Tbl w (.slice A n cap) 1 rows) (h0 : 0 < rows.length) : ∃ b off, A = some ⟨b, off, none⟩ ∧ b < w.heap.size ∧ ∀ i x, rows[i]? = some [x] → w.cell? ⟨b, off + i, none⟩ = some x := by
  obtain ⟨A, cap, e, hcap, h3⟩ := h
  injection e with e1 e2 e3
  subst e1
  obtain ⟨b, off, rfl, hb, hx⟩ := h3 h0
  exact ⟨b, off, rfl, hb, fun i x hr => by have := hx i _ hr 0 x rfl; rwa [Nat.mul_one] at this⟩
theorem Tbl.cap {w : World} {A : Option Addr} {n cap k : Nat} {rows : List (List Value)} (h : Tbl w (.slice A n cap) k rows) : n ≤ cap := by
  obtain ⟨A, cap, e, hcap, h3⟩ := h
  injection e with e1 e2 e3
  omega
theorem Tbl.form {w : World} {v : Value} {k : Nat} {rows : List (List Value)} (h : Tbl w v k rows) : ∃ A cap, v = .slice A rows.length cap := by
  obtain ⟨A, cap, rfl, -⟩ := h
  exact ⟨A, cap, rfl⟩
theorem span_any (n a b : Int) (w : World) :
    Calls Tryz.prog 60 #[.agg #[.int .i64 n, .int .i64 a, .int .i64 b]] w fun e w' => e = .returned (.bool (!inR n a b)) ∧ Hid (Chg [] w w') := by
  have HC := Lib.hid ((Chg.refl [] w).alloc (.cells #[.int .i64 n, .int .i64 a, .int .i64 b] 66))
  by_cases h1 : n < a
  · have HR := Lib.hid (show inR n a b = false from by unfold inR; rw [decide_eq_false (by omega)]; rfl)
    go_enter Tryz.func60, Tryz.ntmps60
    go_wp2
    go_ret
    exact ⟨by rw [HR.out]; rfl, HC.out⟩
  · have h2 : a ≤ n := by omega
    have HR := Lib.hid (show inR n a b = decide (n ≤ b) from by unfold inR; rw [decide_eq_true h2]; rfl)
    by_cases h3 : b < n
    · have HQ := Lib.hid (show decide (n ≤ b) = false from decide_eq_false (by omega))
      go_enter Tryz.func60, Tryz.ntmps60
      go_wp2
      go_ret
      exact ⟨by rw [HR.out, HQ.out]; rfl, HC.out⟩
    · have HQ := Lib.hid (show decide (n ≤ b) = true from decide_eq_true (by omega))
      go_enter Tryz.func60, Tryz.ntmps60
      go_wp2
      go_ret
      exact ⟨by rw [HR.out, HQ.out]; rfl, HC.out⟩
theorem any_hit {α : Type} {l : List α} {p : α → Bool} {k : Nat} {x : α} (h : l[k]? = some x) (hp : p x = false) : l.all p = false := by
  rw [List.all_eq_false]
  exact ⟨x, List.mem_of_getElem? h, by simp [hp]⟩
theorem all_good {α : Type} {l : List α} {p : α → Bool} (h : ∀ (j : Nat) (x : α), j < l.length → l[j]? = some x → p x = true) : l.all p = true := by
  rw [List.all_eq_true]
  intro x hx
  obtain ⟨j, hj, e⟩ := List.getElem_of_mem hx
  exact h j x hj (by rw [List.getElem?_eq_getElem hj, e])
theorem next_good {α : Type} {l : List α} {p : α → Bool} {k : Nat} {y : α} (h : ∀ (j : Nat) (x : α), j < k → l[j]? = some x → p x = true) (hk : l[k]? = some y) (hp : p y = true) : ∀ (j : Nat) (x : α), j < k + 1 → l[j]? = some x → p x = true := by
  intro j x hj hx
  rcases Nat.lt_or_ge j k with q | q
  · exact h j x q hx
  · obtain rfl : j = k := by omega
    rw [hk] at hx
    injection hx with hx
    rw [← hx]
    exact hp
set_option maxHeartbeats 8000000 in
set_option maxRecDepth 100000 in
theorem rIndex_any (v : Value) (l : List (Int × Int × Int)) (w : World) (ht : Hid (Tbl w v 3 (spanRows l))) (hl : l.length ≤ 1000) :
    Calls Tryz.prog 85 #[v, .func (.func 60) #[] #[]] w fun e w' => (∃ i : Int, e = .returned (.int .i64 i) ∧ decide (0 ≤ i) = !allR l) ∧ Hid (Chg [] w w') := by
  have hlen : (spanRows l).length = l.length := by unfold spanRows; rw [List.length_map]
  obtain ⟨A, cap, rfl⟩ := ht.out.form
  rw [hlen] at ht ⊢
  have hcap := ht.out.cap
  have HLen := Lib.hid hlen
  clear hlen
  have eg : ∀ args w, (callFunc 60 args).run Tryz.prog w = .ok (.enter 60 args) w := enters_of Tryz.func60 (by kernel_rfl) rfl
  go_enter Tryz.func85, Tryz.ntmps85
  go_wp2
  go_loopw [8] (fun i wr => ∃ k : Nat, i = .int .i64 k ∧ k ≤ l.length ∧ Hid (∀ (j : Nat) (x : Int × Int × Int), j < k → l[j]? = some x → inR x.1 x.2.1 x.2.2 = true) ∧ Hid (Chg [] w wr)) (fun i _ => l.length - (intOf i).toNat)
  case atStart => exact ⟨0, rfl, by omega, Lib.hid (fun j g hj => by omega), Chg.refl _ _⟩
  case round =>
    obtain ⟨k, rfl, hk, HN, HC⟩ := hrel
    by_cases hlt : k < l.length
    · obtain ⟨b, o, rfl, hbs, hx⟩ := ht.out.at3 (by rw [HLen.out]; omega)
      obtain ⟨x, hxk⟩ : ∃ x, l[k]? = some x := ⟨_, List.getElem?_eq_getElem hlt⟩
      obtain ⟨c1, c2, c3⟩ := hx k _ _ _ (by unfold spanRows; rw [List.getElem?_map, hxk]; rfl)
      have c1 := HC.out.cell c1 (by simp)
      have c2 := HC.out.cell c2 (by simp)
      have c3 := HC.out.cell c3 (by simp)
      have HX := Lib.hid hxk
      clear hx hxk
      obtain ⟨n, a, b2⟩ := x
      dsimp only at c1 c2 c3
      have hcall := span_any n a b2 wr
      cases hin : inR n a b2
      · rw [hin] at hcall
        have HE := Lib.hid (show allR l = false from any_hit HX.out hin)
        clear hin
        go_wp2_with (go_at_fn 60; refine hcall.mono ?_; rintro e w2 ⟨rfl, H2⟩)
        go_ret
        exact ⟨⟨(k : Int), rfl, by rw [HE.out]; exact decide_eq_true (by omega)⟩, HC.out.trans H2.out (by simp)⟩
      · rw [hin] at hcall
        have HN2 := Lib.hid (next_good (p := fun x : Int × Int × Int => inR x.1 x.2.1 x.2.2) HN.out HX.out hin)
        clear hin
        go_wp2_with (go_at_fn 60; refine hcall.mono ?_; rintro e w2 ⟨rfl, H2⟩)
        go_roundw
        case rel => exact ⟨k + 1, by go_num, by omega, HN2, HC.out.trans H2.out (by simp)⟩
        case measure => simp [intOf]; omega
    · obtain rfl : k = l.length := by omega
      have HE := Lib.hid (show allR l = true from all_good HN.out)
      go_wp2
      go_ret
      exact ⟨⟨-1, rfl, by rw [HE.out]; rfl⟩, HC.out⟩
theorem within_any (v : Value) (l : List (Int × Int × Int)) (w : World) (ht : Hid (Tbl w v 3 (spanRows l))) (hl : l.length ≤ 1000) :
    Calls Tryz.prog 34 #[v] w fun e w' => e = .returned (.bool (allR l)) ∧ Hid (Chg [] w w') := by
  have HI := Lib.hid (rIndex_any v l w ht hl)
  have HCF : Hid (Calls Tryz.prog 59 #[v, .func (.func 60) #[] #[]] w fun e w' => e = .returned (.bool (!allR l)) ∧ Hid (Chg [] w w')) := by
    refine Lib.hid ?_
    go_enter Tryz.func59, Tryz.ntmps59
    go_wp2_with fail
    refine HI.out.mono ?_
    rintro e w2 ⟨⟨i, rfl, hi⟩, H2⟩
    have HJ := Lib.hid hi
    clear hi
    go_wp2
    go_ret
    exact ⟨by rw [← HJ.out]; rfl, H2.out⟩
  go_enter Tryz.func34, Tryz.ntmps34
  go_wp2_with fail
  refine HCF.out.mono ?_
  rintro e w2 ⟨rfl, H2⟩
  go_wp2
  go_ret
  exact ⟨by first | rfl | (rw [Bool.not_not]; rfl), H2.out⟩
end Go.Proofs.YtjndgkbikhndoaaGreatDoor
