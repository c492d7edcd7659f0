/- A host at a moment; what a set is told of a host: Mark, both sides. -/
import Derived.Test.YteaepadamhmknaaH5
namespace Go.Proofs.Yteaepadamhmknaa
open Go.RowKit
set_option linter.unusedVariables false

theorem Hst.put {T TH : Nat} {w : World} {b g : Nat} {fails base long share last : Int} {hs : List Ho} (h : Hst T TH w b g fails base long share last hs) {k : Nat} {x : Ho} (hk : hs[k]? = some x) (j : Nat) (v : Value) (y : Ho) (hj : j < 5) (hv : x.cells.set j v = y.cells) :
    Hst T TH (w.setCell ⟨g, k * 5 + j, none⟩ v) b g fails base long share last (hs.set k y) :=
  ⟨by rw [List.length_set]; exact h.num.other (by simpa using h.ne) _, h.recs.set Ho.len hk j v y hj hv, h.ne⟩
theorem Hst.mayset {T TH : Nat} {w : World} {b g : Nat} {fails base long share last : Int} {hs : List Ho} (h : Hst T TH w b g fails base long share last hs) (k : Nat) : w.frozen? ⟨g, k, none⟩ = false := Blk.free h.recs k
/-- The set is at L, and only it has changed. -/
def Brought (T TH : Nat) (b g : Nat) (fails base long share L : Int) (hs : List Ho) (w w' : World) : Prop :=
  Hst T TH w' b g fails base long share L hs ∧ Chg [b, g] w w'
theorem at_bad (p : Option Addr) (now i : Int) (h : now < 0 ∨ 4611686018427387904 < now) (w : World) : Calls Try.prog 33 #[.pointer p, .int .i64 now, .int .i64 i] w fun e w' => e = .returned (.tuple #[.pointer none, .int .i64 1]) ∧ w = w' := by
  go_enter Try.func33, Try.ntmps33
  go_wp2_with (first | (go_at_call 34; (with_reducible refine (add_bad now h _).mono ?_); rintro e w' ⟨rfl, rfl⟩))
  go_ret2
  exact ⟨rfl, rfl⟩
theorem at_nil (now i : Int) (n0 : 0 ≤ now) (n1 : now ≤ 4611686018427387904) (w : World) : Calls Try.prog 33 #[.pointer none, .int .i64 now, .int .i64 i] w fun e w' => e = .returned (.tuple #[.pointer none, .int .i64 6]) ∧ w = w' := by
  go_enter Try.func33, Try.ntmps33
  go_wp2_with (first | (go_at_call 34; (with_reducible refine (add_zero now n0 n1 _).mono ?_); rintro e w' ⟨rfl, rfl⟩))
  go_ret2
  exact ⟨rfl, rfl⟩
theorem at_none (b g : Nat) (fails base long share last now i : Int) (hs : List Ho) (w : World) (h : Hst 64 69 w b g fails base long share last hs) (n0 : 0 ≤ now) (n1 : now ≤ 4611686018427387904) (hi : i < 0 ∨ (hs.length : Int) ≤ i) : Calls Try.prog 33 #[.pointer (some ⟨b, 0, none⟩), .int .i64 now, .int .i64 i] w fun e w' => e = .returned (.tuple #[.pointer none, .int .i64 6]) ∧ w = w' := by
  have c5 := h.num.cell 5 _ rfl
  clear h
  by_cases k : i < 0
  · clear hi
    go_enter Try.func33, Try.ntmps33
    go_wp2_with (first | (go_at_call 34; (with_reducible refine (add_zero now n0 n1 _).mono ?_); rintro e w' ⟨rfl, rfl⟩))
    go_ret2
    exact ⟨rfl, rfl⟩
  · have hi' : (hs.length : Int) ≤ i := by omega
    clear hi
    go_enter Try.func33, Try.ntmps33
    go_wp2_with (first | (go_at_call 34; (with_reducible refine (add_zero now n0 n1 _).mono ?_); rintro e w' ⟨rfl, rfl⟩))
    go_ret2
    exact ⟨rfl, rfl⟩
theorem at_any (b g : Nat) (fails base long share last now L : Int) (hs : List Ho) (w : World) (h : Hst 64 69 w b g fails base long share last hs) (hl : hs.length ≤ 16) (n0 : 0 ≤ now) (n1 : now ≤ 4611686018427387904) (hL : (L = now ∧ last < now) ∨ (L = last ∧ now ≤ last)) (i : Nat) (hi : i < hs.length) :
    Calls Try.prog 33 #[.pointer (some ⟨b, 0, none⟩), .int .i64 now, .int .i64 i] w fun e w' => e = .returned (.tuple #[.pointer (some ⟨g, i * 5, none⟩), .int .i64 0]) ∧ Hid (Brought 64 69 b g fails base long share L (hs.map (Ho.rst L)) w w') := by
  have HH := Lib.hid h
  have HL := Lib.hid hL
  have c5 := h.num.cell 5 _ rfl
  clear h hL
  go_enter Try.func33, Try.ntmps33
  go_wp2_with (first | (go_at_call 34; (with_reducible refine (add_zero now n0 n1 _).mono ?_); rintro e w' ⟨rfl, rfl⟩))
  refine (bring_any b g fails base long share last now L hs _ HH.out hl n0 n1 HL.out).mono ?_
  rintro e w' ⟨v, rfl, -, -, hs', hc'⟩
  have d5 := hs'.num.cell 5 _ rfl
  rw [List.length_map] at d5
  replace hs' := Lib.hid hs'
  replace hc' := Lib.hid hc'
  clear c5
  go_wp2_with fail
  go_ret2
  exact ⟨rfl, hs'.out, hc'.out⟩
theorem asked_bad (p : Option Addr) (now i : Int) (h : now < 0 ∨ 4611686018427387904 < now) (w : World) : Calls Try.prog 46 #[.pointer p, .int .i64 now, .int .i64 i] w fun e w' => e = .returned (.int .i64 1) ∧ w = w' := by
  go_enter Try.func46, Try.ntmps46
  go_wp2_with (first | (go_at_call 21; (with_reducible refine (rmoment_no now h _).mono ?_); rintro e w' ⟨rfl, rfl⟩))
  go_ret
  exact ⟨rfl, rfl⟩
theorem asked_none (b g : Nat) (fails base long share last now i : Int) (hs : List Ho) (w : World) (h : Hst 73 79 w b g fails base long share last hs) (n0 : 0 ≤ now) (n1 : now ≤ 4611686018427387904) (hi : i < 0 ∨ (hs.length : Int) ≤ i) : Calls Try.prog 46 #[.pointer (some ⟨b, 0, none⟩), .int .i64 now, .int .i64 i] w fun e w' => e = .returned (.int .i64 6) ∧ w = w' := by
  have c5 := h.num.cell 5 _ rfl
  clear h
  by_cases k : i < 0
  · clear hi
    go_enter Try.func46, Try.ntmps46
    go_wp2_with (first | (go_at_call 21; (with_reducible refine (rmoment_yes now n0 n1 _).mono ?_); rintro e w' ⟨rfl, rfl⟩))
    go_ret
    exact ⟨rfl, rfl⟩
  · have hi' : (hs.length : Int) ≤ i := by omega
    clear hi
    go_enter Try.func46, Try.ntmps46
    go_wp2_with (first | (go_at_call 21; (with_reducible refine (rmoment_yes now n0 n1 _).mono ?_); rintro e w' ⟨rfl, rfl⟩))
    go_ret
    exact ⟨rfl, rfl⟩
theorem asked_any (b g : Nat) (fails base long share last now L : Int) (hs : List Ho) (w : World) (h : Hst 73 79 w b g fails base long share last hs) (hl : hs.length ≤ 16) (n0 : 0 ≤ now) (n1 : now ≤ 4611686018427387904) (hL : (L = now ∧ last < now) ∨ (L = last ∧ now ≤ last)) (i : Nat) (hi : i < hs.length) :
    Calls Try.prog 46 #[.pointer (some ⟨b, 0, none⟩), .int .i64 now, .int .i64 i] w fun e w' => e = .returned (.int .i64 0) ∧ Hid (Brought 73 79 b g fails base long share L (hs.map (Ho.rst L)) w w') := by
  have HH := Lib.hid h
  have HL := Lib.hid hL
  have c5 := h.num.cell 5 _ rfl
  clear h hL
  go_enter Try.func46, Try.ntmps46
  go_wp2_with (first | (go_at_call 21; (with_reducible refine (rmoment_yes now n0 n1 _).mono ?_); rintro e w' ⟨rfl, rfl⟩))
  refine (rbring_any b g fails base long share last now L hs _ HH.out hl n0 n1 HL.out).mono ?_
  rintro e w' ⟨v, rfl, -, -, hs', hc'⟩
  replace hs' := Lib.hid hs'
  replace hc' := Lib.hid hc'
  clear c5
  go_wp2_with fail
  go_ret
  exact ⟨rfl, hs'.out, hc'.out⟩
/-- Mark -/
theorem mark_bad (p : Option Addr) (now i : Int) (ok : Bool) (h : now < 0 ∨ 4611686018427387904 < now) (w : World) : Calls Try.prog 20 #[.pointer p, .int .i64 now, .int .i64 i, .bool ok] w fun e w' => e = .returned (.tuple #[.bool false, .int .i64 1]) ∧ w = w' := by
  have HB := Lib.hid h
  clear h
  go_enter Try.func20, Try.ntmps20
  go_wp2_with (first | (go_at_call 33; (with_reducible refine (at_bad p now i HB.out _).mono ?_); rintro e w' ⟨rfl, rfl⟩))
  go_ret2
  exact ⟨rfl, rfl⟩
theorem mark_nil (now i : Int) (ok : Bool) (n0 : 0 ≤ now) (n1 : now ≤ 4611686018427387904) (w : World) : Calls Try.prog 20 #[.pointer none, .int .i64 now, .int .i64 i, .bool ok] w fun e w' => e = .returned (.tuple #[.bool false, .int .i64 6]) ∧ w = w' := by
  go_enter Try.func20, Try.ntmps20
  go_wp2_with (first | (go_at_call 33; (with_reducible refine (at_nil now i n0 n1 _).mono ?_); rintro e w' ⟨rfl, rfl⟩))
  go_ret2
  exact ⟨rfl, rfl⟩
theorem mark_none (b g : Nat) (fails base long share last now i : Int) (ok : Bool) (hs : List Ho) (w : World) (h : Hst 64 69 w b g fails base long share last hs) (n0 : 0 ≤ now) (n1 : now ≤ 4611686018427387904) (hi : i < 0 ∨ (hs.length : Int) ≤ i) : Calls Try.prog 20 #[.pointer (some ⟨b, 0, none⟩), .int .i64 now, .int .i64 i, .bool ok] w fun e w' => e = .returned (.tuple #[.bool false, .int .i64 6]) ∧ w = w' := by
  have HH := Lib.hid h
  have HI := Lib.hid hi
  clear h hi
  go_enter Try.func20, Try.ntmps20
  go_wp2_with (first | (go_at_call 33; (with_reducible refine (at_none b g fails base long share last now i hs _ HH.out n0 n1 HI.out).mono ?_); rintro e w' ⟨rfl, rfl⟩))
  go_ret2
  exact ⟨rfl, rfl⟩
theorem rmark_bad (p : Option Addr) (now i : Int) (ok : Bool) (h : now < 0 ∨ 4611686018427387904 < now) (w : World) : Calls Try.prog 36 #[.pointer p, .int .i64 now, .int .i64 i, .bool ok] w fun e w' => e = .returned (.tuple #[.bool false, .int .i64 1]) ∧ w = w' := by
  have HB := Lib.hid h
  clear h
  go_enter Try.func36, Try.ntmps36
  go_wp2_with (first | (go_at_call 46; (with_reducible refine (asked_bad p now i HB.out _).mono ?_); rintro e w' ⟨rfl, rfl⟩))
  go_ret2
  exact ⟨rfl, rfl⟩
theorem rmark_none (b g : Nat) (fails base long share last now i : Int) (ok : Bool) (hs : List Ho) (w : World) (h : Hst 73 79 w b g fails base long share last hs) (n0 : 0 ≤ now) (n1 : now ≤ 4611686018427387904) (hi : i < 0 ∨ (hs.length : Int) ≤ i) : Calls Try.prog 36 #[.pointer (some ⟨b, 0, none⟩), .int .i64 now, .int .i64 i, .bool ok] w fun e w' => e = .returned (.tuple #[.bool false, .int .i64 6]) ∧ w = w' := by
  have HH := Lib.hid h
  have HI := Lib.hid hi
  clear h hi
  go_enter Try.func36, Try.ntmps36
  go_wp2_with (first | (go_at_call 46; (with_reducible refine (asked_none b g fails base long share last now i hs _ HH.out n0 n1 HI.out).mono ?_); rintro e w' ⟨rfl, rfl⟩))
  go_ret2
  exact ⟨rfl, rfl⟩
/-- What Mark leaves of a host. -/
def Ho.mark (x : Ho) (ok : Bool) : Ho := ⟨!ok, x.out, x.til, x.row, x.times⟩
theorem mark_any (b g : Nat) (fails base long share last now L : Int) (ok : Bool) (hs : List Ho) (w : World) (h : Hst 64 69 w b g fails base long share last hs) (hl : hs.length ≤ 16) (n0 : 0 ≤ now) (n1 : now ≤ 4611686018427387904) (hL : (L = now ∧ last < now) ∨ (L = last ∧ now ≤ last)) (i : Nat) (x : Ho) (hx : (hs.map (Ho.rst L))[i]? = some x) :
    Calls Try.prog 20 #[.pointer (some ⟨b, 0, none⟩), .int .i64 now, .int .i64 i, .bool ok] w fun e w' => e = .returned (.tuple #[.bool (x.sick == ok), .int .i64 0]) ∧ Hid (Brought 64 69 b g fails base long share L ((hs.map (Ho.rst L)).set i (x.mark ok)) w w') := by
  have HH := Lib.hid h
  have HL := Lib.hid hL
  have HX := Lib.hid hx
  have HI := Lib.hid (show i < hs.length by simpa using (List.getElem?_eq_some_iff.1 hx).1)
  clear h hL hx
  go_enter Try.func20, Try.ntmps20
  go_wp2_with fail
  refine (at_any b g fails base long share last now L hs _ HH.out hl n0 n1 HL.out i HI.out).mono ?_
  rintro e w' ⟨rfl, HB⟩
  have HP := HB.out.1.put HX.out 0 (.bool !ok) (x.mark ok) (by omega) rfl
  rw [Nat.add_zero] at HP
  replace HP := Lib.hid HP
  obtain ⟨d0, d1, d2, d3, d4⟩ := HB.out.1.host HX.out
  have f0 := HB.out.1.mayset (i * 5)
  go_wp2_with fail
  go_ret2
  exact ⟨rfl, HP.out, HB.out.2.setCell (by simp) _⟩
theorem rmark_any (b g : Nat) (fails base long share last now L : Int) (ok : Bool) (hs : List Ho) (w : World) (h : Hst 73 79 w b g fails base long share last hs) (hl : hs.length ≤ 16) (n0 : 0 ≤ now) (n1 : now ≤ 4611686018427387904) (hL : (L = now ∧ last < now) ∨ (L = last ∧ now ≤ last)) (i : Nat) (x : Ho) (hx : (hs.map (Ho.rst L))[i]? = some x) :
    Calls Try.prog 36 #[.pointer (some ⟨b, 0, none⟩), .int .i64 now, .int .i64 i, .bool ok] w fun e w' => e = .returned (.tuple #[.bool (x.sick == ok), .int .i64 0]) ∧ Hid (Brought 73 79 b g fails base long share L ((hs.map (Ho.rst L)).set i (x.mark ok)) w w') := by
  have HH := Lib.hid h
  have HL := Lib.hid hL
  have HX := Lib.hid hx
  have hi : i < hs.length := by simpa using (List.getElem?_eq_some_iff.1 hx).1
  clear h hL hx
  go_enter Try.func36, Try.ntmps36
  go_wp2_with fail
  refine (asked_any b g fails base long share last now L hs _ HH.out hl n0 n1 HL.out i hi).mono ?_
  rintro e w' ⟨rfl, HB⟩
  have c5 := HB.out.1.num.cell 5 _ rfl
  rw [List.length_map] at c5
  have HP := HB.out.1.put HX.out 0 (.bool !ok) (x.mark ok) (by omega) rfl
  rw [Nat.add_zero] at HP
  replace HP := Lib.hid HP
  obtain ⟨d0, d1, d2, d3, d4⟩ := HB.out.1.host HX.out
  have f0 := HB.out.1.mayset (i * 5)
  go_wp2_with fail
  go_ret2
  exact ⟨by cases x.sick <;> cases ok <;> rfl, HP.out, HB.out.2.setCell (by simp) _⟩
end Go.Proofs.Yteaepadamhmknaa
