/- Layer 6, the program: Parse. -/
import Derived.Test.YtjndgkbikhndoaaGreatDoorM1
import Derived.Laws.Runes
import Derived.WalkMore
import Derived.Deep.QuietTactic
import Derived.Deep.LoopGhost
import Derived.Lib.SpaceUEq
import Derived.Lib.TrimUEq
import Derived.Laws.Rows
namespace Go.Proofs.YtjndgkbikhndoaaGreatDoor
open Go.RowKit Go.ChangeShapes Go.WideShapes
set_option linter.unusedVariables false

def pathMore : List UInt8 := [45, 46, 95, 126, 33, 36, 38, 39, 40, 41, 42, 43, 44, 59, 61, 58, 64, 47]
def qryMore : List UInt8 := [45, 46, 95, 126, 33, 36, 38, 39, 40, 41, 42, 43, 44, 59, 61, 58, 64, 47, 63]
/-- Are a path and a query good ones? -/
def locL (p q : List UInt8) : Bool := Lib.hasPrefix p [47] && (madeL pathMore p && madeL qryMore q)
def cutP (s : ByteArray) : ByteArray := ⟨(Lib.cut s.data.toList [63]).1.toArray⟩
def cutQ (s : ByteArray) : ByteArray := ⟨(Lib.cut s.data.toList [63]).2.1.toArray⟩
def cutA (s : ByteArray) : Bool := (Lib.cut s.data.toList [63]).2.2
theorem cut_len (l p : List UInt8) : (Lib.cut l p).1.length ≤ l.length ∧ (Lib.cut l p).2.1.length ≤ l.length := by
  unfold Lib.cut
  split
  · exact ⟨by rw [List.length_take]; omega, by rw [List.length_drop]; omega⟩
  · exact ⟨Nat.le_refl _, Nat.zero_le _⟩
theorem cutP_len (s : ByteArray) : (cutP s).size ≤ s.size := by
  have := (cut_len s.data.toList [63]).1
  rw [toList_len] at this
  rw [← toList_len]
  exact this
theorem cutQ_len (s : ByteArray) : (cutQ s).size ≤ s.size := by
  have := (cut_len s.data.toList [63]).2
  rw [toList_len] at this
  rw [← toList_len]
  exact this
/-- A target that lies in a block. -/
def tgt (f : Int) (h : ByteArray) (p : Int) (pa q : ByteArray) (a : Bool) : List Value := [.int .i64 f, .string h, .int .i64 p, .string pa, .string q, .bool a]
set_option maxHeartbeats 4000000 in
set_option maxRecDepth 100000 in
theorem local_any (b : Nat) (f p : Int) (h pa q : ByteArray) (a : Bool) (s : ByteArray) (w : World) (hs : s.size ≤ 1048576) (hE : Hid (Env w)) (hB : Hid (Blk w b (tgt f h p pa q a) 76)) (z : Bool) (hz : locL (cutP s).data.toList (cutQ s).data.toList = z) :
    Calls Tryz.prog 67 #[.pointer (some ⟨b, 0, none⟩), .string s] w fun o w' => o = .returned (.bool z) ∧ Hid (Blk w' b (tgt f h p (cutP s) (cutQ s) (cutA s)) 76 ∧ Chg [b] w w') := by
  obtain ⟨⟨m, hm⟩, -⟩ := hE.out
  have HC := Lib.hid (Tryz.strings_Cut s ⟨#[63]⟩ m w (by omega) hm)
  rw [show (⟨#[63]⟩ : ByteArray).data.toList = [63] from rfl] at HC
  have hl1 := cutP_len s
  have hl2 := cutQ_len s
  have hHC : Hid (Calls Tryz.prog 92 #[.string s, .string ⟨#[63]⟩] w fun e w' => e = .returned (.tuple #[.string (cutP s), .string (cutQ s), .bool (cutA s)]) ∧ ∃ n, w' = w.drewN n) := HC
  clear HC hm
  generalize cutP s = P at *
  generalize cutQ s = Q at *
  generalize cutA s = A at *
  have H1 := Lib.hid (fun w => Tryz.strings_HasPrefix P ⟨#[47]⟩ w)
  have H2 := Lib.hid (fun w => made_any P ⟨#[45, 46, 95, 126, 33, 36, 38, 39, 40, 41, 42, 43, 44, 59, 61, 58, 64, 47]⟩ w (by omega))
  have H3 := Lib.hid (fun w => made_any Q ⟨#[45, 46, 95, 126, 33, 36, 38, 39, 40, 41, 42, 43, 44, 59, 61, 58, 64, 47, 63]⟩ w (by omega))
  rw [show (⟨#[47]⟩ : ByteArray).data.toList = [47] from rfl] at H1
  rw [show (⟨#[45, 46, 95, 126, 33, 36, 38, 39, 40, 41, 42, 43, 44, 59, 61, 58, 64, 47]⟩ : ByteArray).data.toList = pathMore from rfl] at H2
  rw [show (⟨#[45, 46, 95, 126, 33, 36, 38, 39, 40, 41, 42, 43, 44, 59, 61, 58, 64, 47, 63]⟩ : ByteArray).data.toList = qryMore from rfl] at H3
  unfold locL at hz
  generalize Lib.hasPrefix P.data.toList [47] = b1 at *
  generalize madeL pathMore P.data.toList = b2 at *
  generalize madeL qryMore Q.data.toList = b3 at *
  clear hl1 hl2
  go_enter Tryz.func67, Tryz.ntmps67
  go_wp2_with fail
  refine hHC.out.mono ?_
  rintro e w1 ⟨rfl, n, hw⟩
  have HW := Lib.hid (show Chg [b] w w1 from by rw [hw]; exact (Chg.refl [b] w).drewN n)
  have HB := Lib.hid (show Blk w1 b (tgt f h p pa q a) 76 from by rw [hw]; exact hB.out.drewN n)
  clear hw
  have c3 := HB.out.cell 3 _ rfl
  have c4 := HB.out.cell 4 _ rfl
  have c5 := HB.out.cell 5 _ rfl
  have f3 := HB.out.free 3
  have f4 := HB.out.free 4
  have f5 := HB.out.free 5
  have S := ((HB.out.set 3 (.string P)).set 4 (.string Q)).set 5 (.bool A)
  have HS := Lib.hid S
  have d3 := S.cell 3 (.string P) rfl
  have d4 := S.cell 4 (.string Q) rfl
  clear S
  go_wp2_with fail
  have HW2 := Lib.hid (((HW.out.setCell (p := ⟨b, 3, none⟩) (by simp) (.string P)).setCell (p := ⟨b, 4, none⟩) (by simp) (.string Q)).setCell (p := ⟨b, 5, none⟩) (by simp) (.bool A))
  clear c3 c4 c5 f3 f4 f5
  generalize ((w1.setCell ⟨b, 3, none⟩ (.string P)).setCell ⟨b, 4, none⟩ (.string Q)).setCell ⟨b, 5, none⟩ (.bool A) = w2 at *
  refine (H1.out _).mono ?_
  rintro e w3 ⟨rfl, rfl⟩
  cases b1
  · have HZ := Lib.hid hz
    clear hz
    go_wp2
    go_ret
    exact ⟨by rw [← HZ.out]; rfl, HS.out, HW2.out⟩
  · go_wp2_with fail
    refine (H2.out _).mono ?_
    rintro e w4 ⟨rfl, rfl⟩
    cases b2
    · have HZ := Lib.hid hz
      clear hz
      go_wp2
      go_ret
      exact ⟨by rw [← HZ.out]; rfl, HS.out, HW2.out⟩
    · go_wp2_with fail
      refine (H3.out _).mono ?_
      rintro e w5 ⟨rfl, rfl⟩
      have HZ := Lib.hid hz
      clear hz
      go_wp2
      go_ret
      exact ⟨by rw [← HZ.out]; rfl, HS.out, HW2.out⟩
end Go.Proofs.YtjndgkbikhndoaaGreatDoor

namespace Go.Proofs.YtjndgkbikhndoaaGreatDoor
open Go.RowKit Go.ChangeShapes Go.WideShapes
set_option linter.unusedVariables false

set_option maxHeartbeats 4000000 in
set_option maxRecDepth 100000 in
theorem runeX_any (r : Int) (w : World) (h1 : 128 ≤ r) (h2 : r ≤ 1114111) (h3 : (r == 65533) = false) :
    Calls Tryz.prog 94 #[.string ⟨#[47, 63]⟩, .int .i32 r] w fun e w' => e = .returned (.int .i64 (-1)) ∧ Hid (Chg [] w w') := by
  have HV := Lib.hid (fun w => Tryz.utf8_ValidRune r w)
  have hr1 : ¬ r < 128 := by omega
  have hr0 : (0 : Int) ≤ r := by omega
  cases hv : Lib.validRune r
  · rw [hv] at HV
    go_enter Tryz.func94, Tryz.ntmps94
    go_wp2_with (go_at_call 120; (with_reducible refine (HV.out _).mono ?_); rintro e w' ⟨rfl, rfl⟩)
    go_ret
    exact ⟨rfl, Chg.refl _ _⟩
  · rw [hv] at HV
    have hu : Utf8.valid r = true := by
      unfold Lib.validRune at hv
      have := of_decide_eq_true hv
      unfold Utf8.valid
      simp
      omega
    obtain ⟨q1, q2, q3⟩ := encode_facts r hu h1
    have hconv := fun w => run_convert_int_string (P := Tryz.prog) w 21 9 .i32 r (by rw [Tryz.underlying21]; rfl) Tryz.underlying9
    generalize Utf8.encode r = rs at *
    by_cases hm : rs.size = 2
    · have hm2 : (rs.size : Int) = 2 := by omega
      obtain ⟨c, hc⟩ : ∃ c, rs[1]'(by omega) = c := ⟨_, rfl⟩
      have hc2 : 128 ≤ c.toNat := by
        have := q3 (by omega)
        rw [← hc]
        simp only [hm] at this
        exact this
      have hne : ((((⟨#[47, 63]⟩ : ByteArray)[1]'(by decide)).toNat : Int) != (c.toNat : Int)) = true := by
        have : ((63 : Int) != (c.toNat : Int)) = true := bne_iff_ne.2 (by omega)
        exact this
      have HI := Lib.hid (fun w => Tryz.strings_IndexByte ⟨#[]⟩ (c.toNat : Int) w)
      rw [show Lib.indexByte (⟨#[]⟩ : ByteArray).data.toList ((c.toNat : Int)).toNat.toUInt8 = -1 from rfl] at HI
      have hs2 : ∀ w, (Instr.slice 9 (.string ⟨#[47, 63]⟩) (some (.int .i64 2)) none none).run Tryz.prog w = .ok (.string ⟨#[]⟩) w := fun w => slice_from ⟨#[47, 63]⟩ 2 w (by decide)
      have hw2 : IntKind.i64.wrap 2 = 2 := by decide
      clear q1 q2 q3
      go_enter Tryz.func94, Tryz.ntmps94
      go_wp2_with (go_at_call 120; (with_reducible refine (HV.out _).mono ?_); rintro e w' ⟨rfl, rfl⟩)
      go_step3
      go_wp2
      go_loopw [9] (fun i wr => i = .int .i64 1 ∧ wr = w') (fun _ _ => 0)
      case atStart => exact ⟨by simp, rfl⟩
      case round =>
        obtain ⟨rfl, rfl⟩ := hrel
        go_wp2
        go_step3
        go_wp2
        go_quiet (fail)
        go_wp2
        go_quiet ((go_at_call 119; exact (HI.out _).mono fun _ _ ⟨he, hm⟩ => ⟨he, _, hm⟩))
        go_wp2
        rw [Exit.noGoto_ret]
        try simp only [Exit.inBlock]
        go_wp2
        rw [Exit.noGoto_ret]
        go_ret
        exact ⟨rfl, (Chg.refl _ _).drewN _⟩
    · have hm2 : ¬ (rs.size : Int) - 1 < 2 := by omega
      have hq4 : (rs.size : Int) ≤ 4 := by omega
      clear q1 q2 q3
      go_enter Tryz.func94, Tryz.ntmps94
      go_wp2_with (go_at_call 120; (with_reducible refine (HV.out _).mono ?_); rintro e w' ⟨rfl, rfl⟩)
      go_step3
      go_wp2
      go_loopw [9] (fun i wr => i = .int .i64 (rs.size - 1) ∧ wr = w') (fun _ _ => 0)
      case atStart => exact ⟨rfl, rfl⟩
      case round =>
        obtain ⟨rfl, rfl⟩ := hrel
        go_wp2
        rw [Exit.noGoto_ret]
        go_ret
        exact ⟨rfl, Chg.refl _ _⟩
set_option maxHeartbeats 4000000 in
set_option maxRecDepth 100000 in
theorem runeX_err (s : ByteArray) (w : World) (hs : s.size ≤ 8) (hascii : ∀ (j : Nat) b, s.data.toList[j]? = some b → b.toNat < 128) :
    Calls Tryz.prog 94 #[.string s, .int .i32 65533] w fun e w' => e = .returned (.int .i64 (-1)) ∧ Hid (Chg [] w w') := by
  have HA := Lib.hid hascii
  clear hascii
  go_enter Tryz.func94, Tryz.ntmps94
  go_wp2
  go_loopg [5, 6] s.size (fun g _ _ wx => ∃ i : Nat, i + g = s.size ∧ wx = w.iter s i)
  case atStart => exact ⟨0, by omega, rfl⟩
  case round =>
    obtain ⟨i, hig, rfl⟩ := hrel
    cases gk with
    | zero =>
      obtain rfl : i = s.size := by omega
      have hnx := run_next_end (P := Tryz.prog) w s s.size
      go_wp2
      go_ret
      exact ⟨rfl, (Chg.refl [] w).alloc _⟩
    | succ g =>
      have hi : i < s.size := by omega
      obtain ⟨x, hx⟩ : ∃ x : UInt8, s[i]'hi = x := ⟨_, rfl⟩
      have hx128 : x.toNat < 128 := HA.out i x (by rw [← hx]; exact toList_get s i hi)
      have hnx := fun ty => run_next_ascii (P := Tryz.prog) w s i ty hi (by rw [hx]; exact hx128)
      rw [hx] at hnx
      have hne : ((x.toNat : Int) == 65533) = false := beq_eq_false_iff_ne.2 (by omega)
      clear hx
      go_wp2
      go_roundg g
      case measure => omega
      case rel => exact ⟨i + 1, by omega, rfl⟩
/-- What IndexRune says of a rune in "/?". -/
theorem runeX_whole (r : Int) (w : World) (h0 : 0 ≤ r) (h2 : r ≤ 1114111) :
    Calls Tryz.prog 94 #[.string ⟨#[47, 63]⟩, .int .i32 r] w fun e w' => (∃ v, e = .returned (.int .i64 v) ∧ (0 ≤ v ↔ (r = 47 ∨ r = 63))) ∧ Hid (Chg [] w w') := by
  by_cases h1 : 128 ≤ r
  · have hn : ¬ (0 : Int) ≤ -1 ∧ ¬ (r = 47 ∨ r = 63) := ⟨by omega, by omega⟩
    by_cases h3 : r = 65533
    · subst h3
      refine (runeX_err ⟨#[47, 63]⟩ w (by decide) (by
        intro j b hb
        match j, hb with
        | 0, hb => injection hb with hb; rw [← hb]; decide
        | 1, hb => injection hb with hb; rw [← hb]; decide)).mono ?_
      rintro e w' ⟨rfl, H⟩
      exact ⟨⟨_, rfl, by omega⟩, H⟩
    · refine (runeX_any r w h1 h2 (beq_eq_false_iff_ne.2 h3)).mono ?_
      rintro e w' ⟨rfl, H⟩
      exact ⟨⟨_, rfl, by omega⟩, H⟩
  · refine (Tryz.strings_IndexRune_ascii ⟨#[47, 63]⟩ r w h0 (by omega)).mono ?_
    rintro e w' ⟨rfl, rfl⟩
    refine ⟨⟨_, rfl, ?_⟩, Chg.refl _ _⟩
    obtain ⟨n, rfl⟩ : ∃ n : Nat, r = n := ⟨r.toNat, by omega⟩
    rw [Int.toNat_natCast]
    have key : ∀ n : Nat, n < 128 → (0 ≤ Lib.indexByte [47, 63] n.toUInt8 ↔ (n = 47 ∨ n = 63)) := by decide +kernel
    have := key n (by omega)
    rw [show (⟨#[47, 63]⟩ : ByteArray).data.toList = [47, 63] from rfl, this]
    omega
/-- / or ?. -/
def isE (y : UInt8) : Prop := y = 47 ∨ y = 63
theorem decN_eq (n b0 b1 b2 b3 : Nat) (h : (Lib.decodeN n b0 b1 b2 b3).1 = 47 ∨ (Lib.decodeN n b0 b1 b2 b3).1 = 63) : b0 = (Lib.decodeN n b0 b1 b2 b3).1 := by
  revert h
  unfold Lib.decodeN
  repeat' split
  all_goals (intro h; first | rfl | (dsimp only at h ⊢; omega))
theorem decN_low (n b0 b1 b2 b3 : Nat) (h : b0 < 128) : (Lib.decodeN n b0 b1 b2 b3).1 = b0 := by
  unfold Lib.decodeN
  rw [if_pos h]
theorem isE_nat {y : UInt8} : isE y ↔ (y.toNat = 47 ∨ y.toNat = 63) := by
  unfold isE
  constructor
  · rintro (rfl | rfl)
    · exact .inl rfl
    · exact .inr rfl
  · rintro (h | h)
    · exact .inl (UInt8.toNat_inj.1 h)
    · exact .inr (UInt8.toNat_inj.1 h)
theorem getD_some {l : List UInt8} {j : Nat} {y : UInt8} (h : l[j]? = some y) : l.getD j 0 = y := by
  rw [List.getD_eq_getElem?_getD, h]
  rfl
theorem dec_hit {s : ByteArray} {pos : Nat} {y : UInt8} (hy : s.data.toList[pos]? = some y) (h : (Utf8.decode s pos).1 = 47 ∨ (Utf8.decode s pos).1 = 63) : isE y := by
  rw [Lib.decode_N] at h
  have q := decN_eq _ _ _ _ _ h
  rw [getD_some hy] at q
  rw [isE_nat]
  rw [getD_some hy] at h
  rcases h with h | h
  · exact .inl (q.trans h)
  · exact .inr (q.trans h)
theorem dec_miss {s : ByteArray} {pos : Nat} (h : ¬ ((Utf8.decode s pos).1 = 47 ∨ (Utf8.decode s pos).1 = 63)) : ∀ (j : Nat) (y : UInt8), pos ≤ j → j < pos + (Utf8.decode s pos).2 → s.data.toList[j]? = some y → ¬ isE y := by
  intro j y h1 h2 hy hE
  rw [isE_nat] at hE
  rw [Lib.decode_N] at h h2
  have hc := Lib.decodeN_conts (s.data.toList.length - pos) (s.data.toList.getD pos 0).toNat (s.data.toList.getD (pos + 1) 0).toNat (s.data.toList.getD (pos + 2) 0).toNat (s.data.toList.getD (pos + 3) 0).toNat
  obtain ⟨c2, c3, c4, c5⟩ := hc
  have hlow := decN_low (s.data.toList.length - pos) (s.data.toList.getD pos 0).toNat (s.data.toList.getD (pos + 1) 0).toNat (s.data.toList.getD (pos + 2) 0).toNat (s.data.toList.getD (pos + 3) 0).toNat
  obtain ⟨d, rfl⟩ : ∃ d, j = pos + d := ⟨j - pos, by omega⟩
  have hg := getD_some hy
  match d, hg, h2 with
  | 0, hg, h2 =>
    rw [Nat.add_zero] at hg
    rw [hg] at hlow h
    have := hlow (by omega)
    omega
  | 1, hg, h2 =>
    have := (c2 (by omega)).1
    rw [hg] at this
    omega
  | 2, hg, h2 =>
    have := (c3 (by omega)).1
    rw [hg] at this
    omega
  | 3, hg, h2 =>
    have := (c4 (by omega)).1
    rw [hg] at this
    omega
  | d + 4, hg, h2 => omega
theorem contE (y : UInt8) : ([47, 63] : List UInt8).contains y = true ↔ isE y := by
  rw [List.contains_iff_mem]
  unfold isE
  simp
theorem ixAt : ∀ (l : List UInt8) (p : Nat) (x : UInt8), l[p]? = some x → isE x → (∀ (j : Nat) (y : UInt8), j < p → l[j]? = some y → ¬ isE y) → Lib.indexAny l [47, 63] = p
  | [], p, x, h, _, _ => by simp at h
  | b :: l, 0, x, h, hx, _ => by
    obtain rfl : b = x := by simpa using h
    unfold Lib.indexAny
    rw [if_pos ((contE b).2 hx)]
    rfl
  | b :: l, p + 1, x, h, hx, hn => by
    have ih := ixAt l p x (by simpa using h) hx (fun j y hj hy => hn (j + 1) y (by omega) (by simpa using hy))
    have hb : ¬ isE b := hn 0 b (by omega) rfl
    unfold Lib.indexAny
    rw [if_neg (fun q => hb ((contE b).1 q)), ih, if_neg (by first | (simp; done) | (simp; omega))]
    omega
theorem ixNone : ∀ (l : List UInt8), (∀ (j : Nat) (y : UInt8), j < l.length → l[j]? = some y → ¬ isE y) → Lib.indexAny l [47, 63] = -1
  | [], _ => rfl
  | b :: l, hn => by
    have ih := ixNone l (fun j y hj hy => hn (j + 1) y (by rw [List.length_cons]; omega) (by simpa using hy))
    have hb : ¬ isE b := hn 0 b (by simp) rfl
    unfold Lib.indexAny
    rw [if_neg (fun q => hb ((contE b).1 q)), ih]
    rfl
set_option maxHeartbeats 4000000 in
set_option maxRecDepth 100000 in
theorem idxX_short (s : ByteArray) (w : World) (hs : s.size ≤ 8) :
    Calls Tryz.prog 69 #[.string s, .string ⟨#[47, 63]⟩] w fun e w' => e = .returned (.int .i64 (Lib.indexAny s.data.toList [47, 63])) ∧ Hid (Chg [] w w') := by
  have h8z : decide ((8 : Int) < (s.size : Int)) = false := decide_eq_false (by omega)
  go_enter Tryz.func69, Tryz.ntmps69
  go_wp2_with (go_at_call 95; (with_reducible refine (Tryz.strings_shouldUseASCIISet _ _).mono ?_); rintro e w' ⟨rfl, hw⟩; rw [hw, h8z])
  go_loopg [9, 10] s.size (fun g _ _ wx => ∃ pos : Nat, s.size ≤ pos + g ∧ wx.heap[w.heap.size]? = some (.stringIter s pos) ∧ Hid (∀ (j : Nat) (y : UInt8), j < pos → s.data.toList[j]? = some y → ¬ isE y) ∧ Hid (Chg [] w wx))
  case atStart => exact ⟨0, by omega, World.iter_heap w s 0, Lib.hid (fun j y hj => by omega), Lib.hid ((Chg.refl [] w).alloc _)⟩
  case round =>
    obtain ⟨pos, hfu, hit, HN, HC⟩ := hrel
    by_cases hps : pos < s.size
    · obtain ⟨g', rfl⟩ : ∃ g', gk = g' + 1 := ⟨gk - 1, by omega⟩
      have hnx : ∀ ty, (Instr.next (.pointer (some ⟨w.heap.size, 0, none⟩)) true ty).run Tryz.prog wr = _ := fun ty => Lib.run_next_any_at wr w.heap.size s pos ty hit hps
      have hwd := Lib.width_pos s pos
      have hrl := Lib.rune_le s pos
      have HH := Lib.hid (fun y hy => @dec_hit s pos y hy)
      have HM := Lib.hid (@dec_miss s pos)
      obtain ⟨y0, hy0⟩ : ∃ y, s.data.toList[pos]? = some y := ⟨_, List.getElem?_eq_getElem (by rw [toList_len]; exact hps)⟩
      have HY := Lib.hid hy0
      clear hy0
      generalize (Utf8.decode s pos).1 = R at hnx hrl HH HM
      generalize (Utf8.decode s pos).2 = K at hnx hwd HM
      have hit2 := Lib.iterAt_heap wr w.heap.size s pos (pos + K) hit
      have HC2 : Hid (Chg [] w (wr.iterAt w.heap.size s (pos + K))) := Lib.hid (Chg.of_below (Lib.below_iterAt HC.out.below (k := w.heap.size) (Nat.le_refl _) s (pos + K)))
      generalize wr.iterAt w.heap.size s (pos + K) = W at hnx hit2 HC2
      have hps2 : (pos : Int) < (s.size : Int) := by omega
      have hlt := HC2.out.size
      have hlt2 : w.heap.size < W.heap.size := (Array.getElem?_eq_some_iff.1 hit2).1
      have HI := Lib.hid hit2
      clear hit hit2
      go_wp2_with fail
      refine (runeX_whole (R : Int) _ (by omega) (by omega)).mono ?_
      rintro e w2 ⟨⟨v, rfl, hvi⟩, H2⟩
      have HVI := Lib.hid hvi
      have HC3 := Lib.hid (HC2.out.trans H2.out (by simp))
      have HI3 := Lib.hid ((H2.out.block _ hlt2 (by simp)).trans HI.out)
      clear hvi
      by_cases hv : 0 ≤ v
      · have HR := Lib.hid (show Lib.indexAny s.data.toList [47, 63] = pos from ixAt _ pos y0 HY.out (HH.out y0 HY.out (by have := HVI.out.1 hv; omega)) HN.out)
        go_wp2
        go_ret
        exact ⟨by rw [HR.out]; rfl, HC3.out⟩
      · have HN2 := Lib.hid (show ∀ (j : Nat) (y : UInt8), j < pos + K → s.data.toList[j]? = some y → ¬ isE y from fun j y hj hy => by
          rcases Nat.lt_or_ge j pos with q | q
          · exact HN.out j y q hy
          · exact HM.out (fun h => hv (HVI.out.2 (by omega))) j y q hj hy)
        go_wp2
        go_roundg g'
        case measure => omega
        case rel => exact ⟨pos + K, by omega, HI3.out, HN2, HC3⟩
    · have hnx : ∀ ty, (Instr.next (.pointer (some ⟨w.heap.size, 0, none⟩)) true ty).run Tryz.prog wr = _ := fun ty => Lib.run_next_end_at wr w.heap.size s pos ty hit hps
      have HR := Lib.hid (show Lib.indexAny s.data.toList [47, 63] = -1 from ixNone _ (fun j y hj hy => HN.out j y (by rw [toList_len] at hj; omega) hy))
      go_wp2
      go_ret
      exact ⟨by rw [HR.out]; rfl, HC.out⟩
theorem indexAny_lt (l cs : List UInt8) : Lib.indexAny l cs < (l.length : Int) ∨ l = [] := by
  induction l with
  | nil => exact .inr rfl
  | cons b l ih =>
    left
    unfold Lib.indexAny
    rw [List.length_cons]
    split
    · omega
    · split
      · omega
      · rcases ih with h | h
        · omega
        · rename_i h2 h3
          rw [h] at h3
          exact absurd (beq_self_eq_true (-1 : Int)) h3
/-- Where the first of the bytes / and ? stands; -1: there is none. -/
def IxOK (l : List UInt8) (v : Int) : Prop := -1 ≤ v ∧ (v < l.length ∧ v = Lib.indexAny l [47, 63]) ∧ ((8 < l.length ∨ (∀ b ∈ l, b.toNat < 128)) → v = Lib.indexAny l [47, 63])
theorem ixok_any (l : List UInt8) : IxOK l (Lib.indexAny l [47, 63]) := by
  refine ⟨Lib.indexAny_ge _ _, ⟨?_, rfl⟩, fun _ => rfl⟩
  rcases indexAny_lt l [47, 63] with h | h
  · exact h
  · rw [h]; decide
theorem zv124 : (Tryz.prog.info? 124).map (fun i => (i.zero, i.size)) = some (some (.agg (Array.replicate 256 (.bool false))), 256) := by kernel_rfl
theorem index_any (s : ByteArray) (w : World) (hs : s.size ≤ 1048576) :
    Calls Tryz.prog 69 #[.string s, .string ⟨#[47, 63]⟩] w fun e w' => (∃ v : Int, e = .returned (.int .i64 v) ∧ IxOK s.data.toList v) ∧ Hid (Chg [] w w') := by
  by_cases h8 : s.size ≤ 8
  · refine (idxX_short s w h8).mono ?_
    rintro e w' ⟨rfl, H⟩
    exact ⟨⟨_, rfl, ixok_any _⟩, H⟩
  · refine (Tryz.strings_IndexAny_long (zero_of_info zv124).1 s ⟨#[47, 63]⟩ w (by decide) (by omega) (by omega) (by decide) (by
      intro j b hb
      match j, hb with
      | 0, hb => injection hb with hb; rw [← hb]; decide
      | 1, hb => injection hb with hb; rw [← hb]; decide)).mono ?_
    rintro e w' ⟨rfl, rfl⟩
    exact ⟨⟨_, rfl, ixok_any _⟩, ((Chg.refl [] w).alloc _).alloc _⟩
end Go.Proofs.YtjndgkbikhndoaaGreatDoor

namespace Go.Proofs.YtjndgkbikhndoaaGreatDoor
open Go.RowKit Go.ChangeShapes Go.WideShapes
set_option linter.unusedVariables false

def zeroT : List Value := tgt 0 ⟨#[]⟩ 0 ⟨#[]⟩ ⟨#[]⟩ false
set_option maxRecDepth 100000 in
theorem results9 (tmps : Array Value) (w : World) (b : Nat) (f p : Int) (h pa q : ByteArray) (a : Bool) (e : Int) (ht : tmps.getD 4 undef = .pointer (some ⟨b, 0, none⟩)) (he : tmps.getD 5 undef = .int .i64 e) (hb : Blk w b (tgt f h p pa q a) 76) :
    (results Tryz.f45 tmps).run Tryz.prog w = .ok (.tuple #[.agg (tgt f h p pa q a).toArray, .int .i64 e]) w := by
  have hres : Tryz.f45.results = #[.cell 4 76, .tmp 5] := by kernel_rfl
  have hi : (Tryz.prog.info? 76).map (·.size) = some (tgt f h p pa q a).toArray.size := by
    have : (Tryz.prog.info? 76).map (·.size) = some 6 := by kernel_rfl
    exact this
  have hv : (loadVar 76 ⟨b, 0, none⟩).run Tryz.prog w = .ok (.agg (tgt f h p pa q a).toArray) w := run_loadVar_row w b 76 76 _ (0, 0) _ hb Tryz.underlying76 rfl hi
  have ht' : tmps[4]?.getD undef = .pointer (some ⟨b, 0, none⟩) := by rw [← Array.getD_eq_getD_getElem?]; exact ht
  have he' : tmps[5]?.getD undef = .int .i64 e := by rw [← Array.getD_eq_getD_getElem?]; exact he
  simp [results, ht', he', hv, Result.andThen, asAddr]
/-- In the midst of Parse: the result's block still holds nothing, the next one the target vs. -/
structure Two (w W : World) (vs : List Value) : Prop where
  res : Blk W w.heap.size zeroT 76
  tg : Blk W (w.heap.size + 1) vs 76
  ch : Chg [] w W
theorem Two.start (w : World) (vs : List Value) : Two w ((w.alloc (.cells zeroT.toArray 76)).alloc (.cells vs.toArray 76)) vs := by
  refine ⟨(Blk.new w zeroT 76).alloc _, ?_, ((Chg.refl [] w).alloc _).alloc _⟩
  have := Blk.new (w.alloc (.cells zeroT.toArray 76)) vs 76
  rw [show (w.alloc (.cells zeroT.toArray 76)).heap.size = w.heap.size + 1 by simp] at this
  exact this
theorem Two.chg {w W W' : World} {vs : List Value} (h : Two w W vs) (hc : Chg [] W W') : Two w W' vs := ⟨h.res.chg hc (by simp), h.tg.chg hc (by simp), h.ch.trans hc (by simp)⟩
theorem Two.chgB {w W W' : World} {vs vs' : List Value} (h : Two w W vs) (hb : Blk W' (w.heap.size + 1) vs' 76) (hc : Chg [w.heap.size + 1] W W') : Two w W' vs' :=
  ⟨h.res.chg hc (by simp), hb, h.ch.trans hc (by intro i hi hlt; simp at hi; omega)⟩
theorem Two.set {w W : World} {vs : List Value} (h : Two w W vs) (i : Nat) (v : Value) : Two w (W.setCell ⟨w.heap.size + 1, i, none⟩ v) (vs.set i v) :=
  ⟨h.res.other (by show w.heap.size ≠ w.heap.size + 1; omega) _, h.tg.set i v, h.ch.setCell (by intro h; have : w.heap.size + 1 < w.heap.size := h; omega) _⟩
/-- What is laid into the result's block behind it. -/
def put6 (w W : World) (a b c d e f : Value) : World := (((((W.setCell ⟨w.heap.size, 0, none⟩ a).setCell ⟨w.heap.size, 1, none⟩ b).setCell ⟨w.heap.size, 2, none⟩ c).setCell ⟨w.heap.size, 3, none⟩ d).setCell ⟨w.heap.size, 4, none⟩ e).setCell ⟨w.heap.size, 5, none⟩ f
theorem Two.put {w W : World} {vs : List Value} (h : Two w W vs) (f p : Int) (hh pa q : ByteArray) (a : Bool) : Blk (put6 w W (.int .i64 f) (.string hh) (.int .i64 p) (.string pa) (.string q) (.bool a)) w.heap.size (tgt f hh p pa q a) 76 ∧ Chg [] w (put6 w W (.int .i64 f) (.string hh) (.int .i64 p) (.string pa) (.string q) (.bool a)) := by
  refine ⟨?_, ?_⟩
  · have := (((((h.res.set 0 (.int .i64 f)).set 1 (.string hh)).set 2 (.int .i64 p)).set 3 (.string pa)).set 4 (.string q)).set 5 (.bool a)
    exact this
  · unfold put6
    exact (((((h.ch.setCell (by intro h; simp at h) _).setCell (by intro h; simp at h) _).setCell (by intro h; simp at h) _).setCell (by intro h; simp at h) _).setCell (by intro h; simp at h) _).setCell (by intro h; simp at h) _
set_option maxHeartbeats 4000000 in
set_option maxRecDepth 100000 in
theorem parse_long (m s : ByteArray) (w : World) (h : 8192 < s.size) :
    Calls Tryz.prog 45 #[.string m, .string s] w fun o w' => o = .returned (.tuple #[.agg zeroT.toArray, .int .i64 2]) ∧ Hid (Chg [] w w') := by
  have h2 : (8192 : Int) < (s.size : Int) := by omega
  have HB := Lib.hid (Blk.new w zeroT 76)
  have HC := Lib.hid ((Chg.refl [] w).alloc (.cells zeroT.toArray 76))
  go_enter Tryz.func45, Tryz.ntmps45
  go_wp2
  exact bodyPost_ret (results9 _ _ w.heap.size 0 0 ⟨#[]⟩ ⟨#[]⟩ ⟨#[]⟩ false 2 rfl rfl HB.out) rfl ⟨rfl, HC.out⟩
/-- The target of a CONNECT. -/
def connF (s : ByteArray) : List Value × Int :=
  if (hostF s).2.2 ≠ 0 then (zeroT, (hostF s).2.2) else if (hostF s).2.1 < 0 then (zeroT, 62) else (tgt 3 (hostF s).1 (hostF s).2.1 ⟨#[]⟩ ⟨#[]⟩ false, 0)
set_option maxHeartbeats 4000000 in
set_option maxRecDepth 100000 in
theorem parse_conn (m s : ByteArray) (w : World) (hE : Hid (Env w)) (h : s.size ≤ 8192) (k : (m.toList == [67, 79, 78, 78, 69, 67, 84]) = true) :
    Calls Tryz.prog 45 #[.string m, .string s] w fun o w' => o = .returned (.tuple #[.agg (connF s).1.toArray, .int .i64 (connF s).2]) ∧ Hid (Chg [] w w') := by
  have h2 : ¬ (8192 : Int) < (s.size : Int) := by omega
  obtain ⟨hh, p, e, hz⟩ : ∃ hh p e, hostF s = (hh, p, e) := ⟨_, _, _, rfl⟩
  have HTS := Lib.hid (Two.start w (tgt 3 ⟨#[]⟩ (-1) ⟨#[]⟩ ⟨#[]⟩ false))
  have hcf : connF s = if e ≠ 0 then (zeroT, e) else if p < 0 then (zeroT, 62) else (tgt 3 hh p ⟨#[]⟩ ⟨#[]⟩ false, 0) := by
    unfold connF
    rw [hz]
  have HZ := Lib.hid hz
  have HCF := Lib.hid hcf
  clear hz hcf
  go_enter Tryz.func45, Tryz.ntmps45
  go_wp2_with fail
  have HW1 := HTS.out
  change Two w ((w.alloc (.cells #[.int .i64 0, .string ⟨#[]⟩, .int .i64 0, .string ⟨#[]⟩, .string ⟨#[]⟩, .bool false] 76)).alloc (.cells #[.int .i64 3, .string ⟨#[]⟩, .int .i64 (-1), .string ⟨#[]⟩, .string ⟨#[]⟩, .bool false] 76)) _ at HW1
  generalize (w.alloc (.cells #[.int .i64 0, .string ⟨#[]⟩, .int .i64 0, .string ⟨#[]⟩, .string ⟨#[]⟩, .bool false] 76)).alloc (.cells #[.int .i64 3, .string ⟨#[]⟩, .int .i64 (-1), .string ⟨#[]⟩, .string ⟨#[]⟩, .bool false] 76) = W1 at *
  have HE1 := Lib.hid (hE.out.chg HW1.ch)
  refine (Host_any s _ (by omega) HE1 hh p e HZ.out).mono ?_
  rintro o W2 ⟨rfl, H2⟩
  have HT2 := Lib.hid (HW1.chg H2.out)
  have d1 := HT2.out.tg.cell 1 _ rfl
  have d2 := HT2.out.tg.cell 2 _ rfl
  have g1 := HT2.out.tg.free 1
  have g2 := HT2.out.tg.free 2
  have HT := Lib.hid ((HT2.out.set 1 (.string hh)).set 2 (.int .i64 p))
  have d0 := HT2.out.tg.cell 0 _ rfl
  have d3 := HT2.out.tg.cell 3 _ rfl
  have d4 := HT2.out.tg.cell 4 _ rfl
  have d5 := HT2.out.tg.cell 5 _ rfl
  (have c0 := HT2.out.res.cell 0 _ rfl;
   have c1 := HT2.out.res.cell 1 _ rfl;
   have c2 := HT2.out.res.cell 2 _ rfl;
   have c3 := HT2.out.res.cell 3 _ rfl;
   have c4 := HT2.out.res.cell 4 _ rfl;
   have c5 := HT2.out.res.cell 5 _ rfl;
   have f0 := HT2.out.res.free 0;
   have f1 := HT2.out.res.free 1;
   have f2 := HT2.out.res.free 2;
   have f3 := HT2.out.res.free 3;
   have f4 := HT2.out.res.free 4;
   have f5 := HT2.out.res.free 5)
  have HPZ := Lib.hid (HT.out.put 0 0 ⟨#[]⟩ ⟨#[]⟩ ⟨#[]⟩ false)
  have HPT := Lib.hid (HT.out.put 3 p hh ⟨#[]⟩ ⟨#[]⟩ false)
  by_cases k1 : e = 0
  · subst k1
    by_cases k2 : p < 0
    · have HR : Hid (connF s = (zeroT, 62)) := Lib.hid (by rw [HCF.out, if_neg (by decide), if_pos k2])
      go_wp2
      rw [HR.out]
      exact bodyPost_ret (results9 _ _ w.heap.size 0 0 ⟨#[]⟩ ⟨#[]⟩ ⟨#[]⟩ false 62 rfl rfl HPZ.out.1) rfl ⟨rfl, HPZ.out.2⟩
    · have HR : Hid (connF s = (tgt 3 hh p ⟨#[]⟩ ⟨#[]⟩ false, 0)) := Lib.hid (by rw [HCF.out, if_neg (by decide), if_neg k2])
      go_wp2
      rw [HR.out]
      exact bodyPost_ret (results9 _ _ w.heap.size 3 p hh ⟨#[]⟩ ⟨#[]⟩ false 0 rfl rfl HPT.out.1) rfl ⟨rfl, HPT.out.2⟩
  · have HR : Hid (connF s = (zeroT, e)) := Lib.hid (by rw [HCF.out, if_pos k1])
    go_wp2
    rw [HR.out]
    exact bodyPost_ret (results9 _ _ w.heap.size 0 0 ⟨#[]⟩ ⟨#[]⟩ ⟨#[]⟩ false e rfl rfl HPZ.out.1) rfl ⟨rfl, HPZ.out.2⟩
set_option maxHeartbeats 4000000 in
set_option maxRecDepth 100000 in
theorem parse_star (m s : ByteArray) (w : World) (h : s.size ≤ 8192) (k : (m.toList == [67, 79, 78, 78, 69, 67, 84]) = false) (k2 : (s.toList == [42]) = true) (z : Bool) (k3 : (m.toList == [79, 80, 84, 73, 79, 78, 83]) = z) :
    Calls Tryz.prog 45 #[.string m, .string s] w fun o w' => o = .returned (.tuple #[.agg (if z then tgt 4 ⟨#[]⟩ (-1) ⟨#[]⟩ ⟨#[]⟩ false else zeroT).toArray, .int .i64 (if z then 0 else 60)]) ∧ Hid (Chg [] w w') := by
  have h2 : ¬ (8192 : Int) < (s.size : Int) := by omega
  cases z
  · have HTS := Lib.hid (Two.start w (tgt 4 ⟨#[]⟩ (-1) ⟨#[]⟩ ⟨#[]⟩ false))
    go_enter Tryz.func45, Tryz.ntmps45
    go_wp2
    exact bodyPost_ret (results9 _ _ w.heap.size 0 0 ⟨#[]⟩ ⟨#[]⟩ ⟨#[]⟩ false 60 rfl rfl HTS.out.res) rfl ⟨rfl, HTS.out.ch⟩
  · have HB := Lib.hid ((Blk.new w (tgt 4 ⟨#[]⟩ (-1) ⟨#[]⟩ ⟨#[]⟩ false) 76).alloc (.cells (tgt 4 ⟨#[]⟩ (-1) ⟨#[]⟩ ⟨#[]⟩ false).toArray 76))
    have HC := Lib.hid (((Chg.refl [] w).alloc (.cells (tgt 4 ⟨#[]⟩ (-1) ⟨#[]⟩ ⟨#[]⟩ false).toArray 76)).alloc (.cells (tgt 4 ⟨#[]⟩ (-1) ⟨#[]⟩ ⟨#[]⟩ false).toArray 76))
    go_enter Tryz.func45, Tryz.ntmps45
    go_wp2
    exact bodyPost_ret (results9 _ _ w.heap.size 4 (-1) ⟨#[]⟩ ⟨#[]⟩ ⟨#[]⟩ false 0 rfl rfl HB.out) rfl ⟨rfl, HC.out⟩
/-- The target of a path. -/
def slashF (s : ByteArray) : List Value × Int :=
  if locL (cutP s).data.toList (cutQ s).data.toList then (tgt 1 ⟨#[]⟩ (-1) (cutP s) (cutQ s) (cutA s), 0) else (zeroT, 60)
set_option maxHeartbeats 4000000 in
set_option maxRecDepth 100000 in
theorem parse_slash (m s : ByteArray) (w : World) (hE : Hid (Env w)) (h : s.size ≤ 8192) (k : (m.toList == [67, 79, 78, 78, 69, 67, 84]) = false) (k2 : (s.toList == [42]) = false) (k3 : Lib.hasPrefix s.data.toList [47] = true) :
    Calls Tryz.prog 45 #[.string m, .string s] w fun o w' => o = .returned (.tuple #[.agg (slashF s).1.toArray, .int .i64 (slashF s).2]) ∧ Hid (Chg [] w w') := by
  have h2 : ¬ (8192 : Int) < (s.size : Int) := by omega
  have HTS := Lib.hid (Two.start w (tgt 1 ⟨#[]⟩ (-1) ⟨#[]⟩ ⟨#[]⟩ false))
  have HP := Lib.hid (fun w => Tryz.strings_HasPrefix s ⟨#[47]⟩ w)
  rw [show (⟨#[47]⟩ : ByteArray).data.toList = [47] from rfl, k3] at HP
  obtain ⟨z, hz⟩ : ∃ z, locL (cutP s).data.toList (cutQ s).data.toList = z := ⟨_, rfl⟩
  have HZ := Lib.hid hz
  clear hz k3
  go_enter Tryz.func45, Tryz.ntmps45
  go_wp2_with (go_at_call 66; (with_reducible refine (HP.out _).mono ?_); rintro e w' ⟨rfl, hw⟩; rw [hw]; clear hw)
  have HW1 := HTS.out
  change Two w ((w.alloc (.cells #[.int .i64 0, .string ⟨#[]⟩, .int .i64 0, .string ⟨#[]⟩, .string ⟨#[]⟩, .bool false] 76)).alloc (.cells #[.int .i64 1, .string ⟨#[]⟩, .int .i64 (-1), .string ⟨#[]⟩, .string ⟨#[]⟩, .bool false] 76)) _ at HW1
  generalize ((w.alloc (.cells #[.int .i64 0, .string ⟨#[]⟩, .int .i64 0, .string ⟨#[]⟩, .string ⟨#[]⟩, .bool false] 76)).alloc (.cells #[.int .i64 1, .string ⟨#[]⟩, .int .i64 (-1), .string ⟨#[]⟩, .string ⟨#[]⟩, .bool false] 76)) = W1 at *
  have HE1 := Lib.hid (hE.out.chg HW1.ch)
  refine (local_any (w.heap.size + 1) 1 (-1) ⟨#[]⟩ ⟨#[]⟩ ⟨#[]⟩ false s _ (by omega) HE1 (Lib.hid HW1.tg) z HZ.out).mono ?_
  rintro o W2 ⟨rfl, H2⟩
  have HT2 := Lib.hid (HW1.chgB H2.out.1 H2.out.2)
  have d0 := HT2.out.tg.cell 0 _ rfl
  have d1 := HT2.out.tg.cell 1 _ rfl
  have d2 := HT2.out.tg.cell 2 _ rfl
  have d3 := HT2.out.tg.cell 3 _ rfl
  have d4 := HT2.out.tg.cell 4 _ rfl
  have d5 := HT2.out.tg.cell 5 _ rfl
  (have c0 := HT2.out.res.cell 0 _ rfl;
   have c1 := HT2.out.res.cell 1 _ rfl;
   have c2 := HT2.out.res.cell 2 _ rfl;
   have c3 := HT2.out.res.cell 3 _ rfl;
   have c4 := HT2.out.res.cell 4 _ rfl;
   have c5 := HT2.out.res.cell 5 _ rfl;
   have f0 := HT2.out.res.free 0;
   have f1 := HT2.out.res.free 1;
   have f2 := HT2.out.res.free 2;
   have f3 := HT2.out.res.free 3;
   have f4 := HT2.out.res.free 4;
   have f5 := HT2.out.res.free 5)
  have HPZ := Lib.hid (HT2.out.put 0 0 ⟨#[]⟩ ⟨#[]⟩ ⟨#[]⟩ false)
  have HPT := Lib.hid (HT2.out.put 1 (-1) ⟨#[]⟩ (cutP s) (cutQ s) (cutA s))
  cases z
  · have HR : Hid (slashF s = (zeroT, 60)) := Lib.hid (by unfold slashF; rw [HZ.out, if_neg (by decide)])
    go_wp2
    rw [HR.out]
    exact bodyPost_ret (results9 _ _ w.heap.size 0 0 ⟨#[]⟩ ⟨#[]⟩ ⟨#[]⟩ false 60 rfl rfl HPZ.out.1) rfl ⟨rfl, HPZ.out.2⟩
  · have HR : Hid (slashF s = (tgt 1 ⟨#[]⟩ (-1) (cutP s) (cutQ s) (cutA s), 0)) := Lib.hid (by unfold slashF; rw [HZ.out, if_pos rfl])
    go_wp2
    rw [HR.out]
    exact bodyPost_ret (results9 _ _ w.heap.size 1 (-1) ⟨#[]⟩ (cutP s) (cutQ s) (cutA s) 0 rfl rfl HPT.out.1) rfl ⟨rfl, HPT.out.2⟩
end Go.Proofs.YtjndgkbikhndoaaGreatDoor

namespace Go.Proofs.YtjndgkbikhndoaaGreatDoor
open Go.RowKit Go.ChangeShapes Go.WideShapes
set_option linter.unusedVariables false

def http7 : ByteArray := ⟨#[104, 116, 116, 112, 58, 47, 47]⟩
/-- Does a text begin with http://, in whatever letters? -/
def isHttp (s : ByteArray) : Bool := decide (7 ≤ s.size) && decide ((low (s.extract 0 7)).toList = (low http7).toList)
set_option maxHeartbeats 4000000 in
set_option maxRecDepth 100000 in
theorem parse_other (m s : ByteArray) (w : World) (h : s.size ≤ 8192) (k : (m.toList == [67, 79, 78, 78, 69, 67, 84]) = false) (k2 : (s.toList == [42]) = false) (k3 : Lib.hasPrefix s.data.toList [47] = false) (k4 : isHttp s = false) :
    Calls Tryz.prog 45 #[.string m, .string s] w fun o w' => o = .returned (.tuple #[.agg zeroT.toArray, .int .i64 60]) ∧ Hid (Chg [] w w') := by
  have h2 : ¬ (8192 : Int) < (s.size : Int) := by omega
  have HTS := Lib.hid (Two.start w (tgt 0 ⟨#[]⟩ (-1) ⟨#[]⟩ ⟨#[]⟩ false))
  have HP := Lib.hid (fun w => Tryz.strings_HasPrefix s ⟨#[47]⟩ w)
  rw [show (⟨#[47]⟩ : ByteArray).data.toList = [47] from rfl, k3] at HP
  clear k3
  by_cases h7 : 7 ≤ s.size
  · have h8 : (7 : Int) ≤ (s.size : Int) := by omega
    unfold isHttp at k4
    rw [decide_eq_true h7, Bool.true_and] at k4
    have hs7 := fun w => slice_to s 7 w h7
    rw [show ((7 : Nat) : Int) = 7 from rfl] at hs7
    have hl := ext_size s 0 7
    generalize s.extract 0 7 = a at *
    have K4 := Lib.hid k4
    clear k4
    go_enter Tryz.func45, Tryz.ntmps45
    go_wp2_with (go_at_call 66; (with_reducible refine (HP.out _).mono ?_); rintro e w' ⟨rfl, hw⟩; rw [hw]; clear hw)
    have HW1 := HTS.out
    change Two w ((w.alloc (.cells #[.int .i64 0, .string ⟨#[]⟩, .int .i64 0, .string ⟨#[]⟩, .string ⟨#[]⟩, .bool false] 76)).alloc (.cells #[.int .i64 0, .string ⟨#[]⟩, .int .i64 (-1), .string ⟨#[]⟩, .string ⟨#[]⟩, .bool false] 76)) _ at HW1
    generalize ((w.alloc (.cells #[.int .i64 0, .string ⟨#[]⟩, .int .i64 0, .string ⟨#[]⟩, .string ⟨#[]⟩, .bool false] 76)).alloc (.cells #[.int .i64 0, .string ⟨#[]⟩, .int .i64 (-1), .string ⟨#[]⟩, .string ⟨#[]⟩, .bool false] 76)) = W1 at *
    refine (same_any a http7 _ (by omega) (by decide) false K4.out).mono ?_
    rintro o W2 ⟨rfl, H2⟩
    have HT2 := Lib.hid (HW1.chg H2.out)
    (have c0 := HT2.out.res.cell 0 _ rfl;
     have c1 := HT2.out.res.cell 1 _ rfl;
     have c2 := HT2.out.res.cell 2 _ rfl;
     have c3 := HT2.out.res.cell 3 _ rfl;
     have c4 := HT2.out.res.cell 4 _ rfl;
     have c5 := HT2.out.res.cell 5 _ rfl;
     have f0 := HT2.out.res.free 0;
     have f1 := HT2.out.res.free 1;
     have f2 := HT2.out.res.free 2;
     have f3 := HT2.out.res.free 3;
     have f4 := HT2.out.res.free 4;
     have f5 := HT2.out.res.free 5)
    have HPZ := Lib.hid (HT2.out.put 0 0 ⟨#[]⟩ ⟨#[]⟩ ⟨#[]⟩ false)
    go_wp2
    exact bodyPost_ret (results9 _ _ w.heap.size 0 0 ⟨#[]⟩ ⟨#[]⟩ ⟨#[]⟩ false 60 rfl rfl HPZ.out.1) rfl ⟨rfl, HPZ.out.2⟩
  · have h8 : ¬ (7 : Int) ≤ (s.size : Int) := by omega
    go_enter Tryz.func45, Tryz.ntmps45
    go_wp2_with (go_at_call 66; (with_reducible refine (HP.out _).mono ?_); rintro e w' ⟨rfl, hw⟩; rw [hw]; clear hw)
    exact bodyPost_ret (results9 _ _ w.heap.size 0 0 ⟨#[]⟩ ⟨#[]⟩ ⟨#[]⟩ false 60 rfl rfl HTS.out.res) rfl ⟨rfl, HTS.out.ch⟩
/-- What a host and a path say together. -/
def httpG (a r : ByteArray) : List Value × Int :=
  if (hostF a).2.2 ≠ 0 then (zeroT, (hostF a).2.2)
  else if locL (cutP r).data.toList (cutQ r).data.toList then (tgt 2 (hostF a).1 (hostF a).2.1 (cutP r) (cutQ r) (cutA r), 0) else (zeroT, 60)
/-- A path begins with /. -/
def rooted (r : ByteArray) : ByteArray := if Lib.hasPrefix r.data.toList [47] then r else ⟨#[47]⟩ ++ r
def cutI (r : ByteArray) (v : Int) : Nat := if v < 0 then r.size else v.toNat
def httpF (r : ByteArray) (v : Int) : List Value × Int := httpG (r.extract 0 (cutI r v)) (rooted (r.extract (cutI r v) r.size))
theorem rooted_len (r : ByteArray) : (rooted r).size ≤ r.size + 1 := by
  unfold rooted
  split
  · omega
  · rw [ByteArray.size_append]
    show 1 + r.size ≤ _
    omega
set_option maxHeartbeats 8000000 in
set_option maxRecDepth 100000 in
theorem parse_http (m s : ByteArray) (w : World) (hE : Hid (Env w)) (h : s.size ≤ 8192) (k : (m.toList == [67, 79, 78, 78, 69, 67, 84]) = false) (k2 : (s.toList == [42]) = false) (k3 : Lib.hasPrefix s.data.toList [47] = false) (k4 : isHttp s = true) :
    Calls Tryz.prog 45 #[.string m, .string s] w fun o w' => (∃ v, IxOK (s.extract 7 s.size).data.toList v ∧ o = .returned (.tuple #[.agg (httpF (s.extract 7 s.size) v).1.toArray, .int .i64 (httpF (s.extract 7 s.size) v).2])) ∧ Hid (Chg [] w w') := by
  have h2 : ¬ (8192 : Int) < (s.size : Int) := by omega
  have HTS := Lib.hid (Two.start w (tgt 2 ⟨#[]⟩ (-1) ⟨#[]⟩ ⟨#[]⟩ false))
  have HTS0 := Lib.hid (Two.start w (tgt 0 ⟨#[]⟩ (-1) ⟨#[]⟩ ⟨#[]⟩ false))
  have HP := Lib.hid (fun w => Tryz.strings_HasPrefix s ⟨#[47]⟩ w)
  rw [show (⟨#[47]⟩ : ByteArray).data.toList = [47] from rfl, k3] at HP
  clear k3
  unfold isHttp at k4
  rw [Bool.and_eq_true] at k4
  obtain ⟨k4, k5⟩ := k4
  have h7 := of_decide_eq_true k4
  clear k4
  have h8 : (7 : Int) ≤ (s.size : Int) := by omega
  have hs7 := fun w => slice_to s 7 w h7
  have ht7 := fun w => slice_from s 7 w h7
  rw [show ((7 : Nat) : Int) = 7 from rfl] at hs7 ht7
  have hl := ext_size s 0 7
  have hl2 := ext_size s 7 s.size
  generalize s.extract 0 7 = a at *
  generalize s.extract 7 s.size = R at *
  have K4 := Lib.hid k5
  clear k5
  go_enter Tryz.func45, Tryz.ntmps45
  go_wp2_with (go_at_call 66; (with_reducible refine (HP.out _).mono ?_); rintro e w' ⟨rfl, hw⟩; rw [hw]; clear hw)
  have HW1 := HTS0.out
  change Two w ((w.alloc (.cells #[.int .i64 0, .string ⟨#[]⟩, .int .i64 0, .string ⟨#[]⟩, .string ⟨#[]⟩, .bool false] 76)).alloc (.cells #[.int .i64 0, .string ⟨#[]⟩, .int .i64 (-1), .string ⟨#[]⟩, .string ⟨#[]⟩, .bool false] 76)) _ at HW1
  generalize ((w.alloc (.cells #[.int .i64 0, .string ⟨#[]⟩, .int .i64 0, .string ⟨#[]⟩, .string ⟨#[]⟩, .bool false] 76)).alloc (.cells #[.int .i64 0, .string ⟨#[]⟩, .int .i64 (-1), .string ⟨#[]⟩, .string ⟨#[]⟩, .bool false] 76)) = W1 at *
  refine (same_any a http7 _ (by omega) (by decide) true K4.out).mono ?_
  rintro o W2 ⟨rfl, H2⟩
  have HT2 := Lib.hid (HW1.chg H2.out)
  have d0 := HT2.out.tg.cell 0 _ rfl
  have g0 := HT2.out.tg.free 0
  go_wp2_with fail
  have HT2s := Lib.hid (HT2.out.set 0 (.int .i64 2))
  generalize W2.setCell ⟨w.heap.size + 1, 0, none⟩ (.int .i64 2) = W2s at *
  refine (index_any R _ (by omega)).mono ?_
  rintro o W3 ⟨⟨v, rfl, hv⟩, H3⟩
  have HT3 := Lib.hid (HT2s.out.chg H3.out)
  have hi1 := hv.2.1.1
  rw [toList_len] at hi1
  have HV := Lib.hid hv
  clear hv
  obtain ⟨i, hi⟩ : ∃ i, cutI R v = i := ⟨_, rfl⟩
  have hil : i ≤ R.size := by
    rw [← hi]
    unfold cutI
    split <;> omega
  have hsa := fun w => slice_to R i w hil
  have hsb := fun w => slice_from R i w hil
  obtain ⟨A, hA⟩ : ∃ A, R.extract 0 i = A := ⟨_, rfl⟩
  obtain ⟨B, hB⟩ : ∃ B, R.extract i R.size = B := ⟨_, rfl⟩
  have HF : Hid (httpF R v = httpG A (rooted B)) := Lib.hid (by unfold httpF; rw [hi, hA, hB])
  have hla := ext_size R 0 i
  have hlb := ext_size R i R.size
  rw [hA] at hsa hla
  rw [hB] at hsb hlb
  clear hA hB
  by_cases hv0 : v < 0
  · have hie : i = R.size := by rw [← hi]; unfold cutI; rw [if_pos hv0]
    subst hie
    have HI := Lib.hid hi
    clear hi
    go_wp2_with fail
    (obtain ⟨hh, p, e, hz⟩ : ∃ hh p e, hostF A = (hh, p, e) := ⟨_, _, _, rfl⟩;
     have HZ := Lib.hid hz;
     clear hz;
     refine (Host_any A _ (by omega) (Lib.hid (hE.out.chg HT3.out.ch)) hh p e HZ.out).mono ?_;
     rintro o W4 ⟨rfl, H4⟩;
     have HT4 := Lib.hid (HT3.out.chg H4.out);
     clear d0 g0;
     have d1 := HT4.out.tg.cell 1 _ rfl;
     have d2 := HT4.out.tg.cell 2 _ rfl;
     have g1 := HT4.out.tg.free 1;
     have g2 := HT4.out.tg.free 2;
     have HT5 := Lib.hid ((HT4.out.set 1 (.string hh)).set 2 (.int .i64 p));
     have HQ := Lib.hid (fun w => Tryz.strings_HasPrefix B ⟨#[47]⟩ w);
     rw [show (⟨#[47]⟩ : ByteArray).data.toList = [47] from rfl] at HQ;
     go_wp2_with fail;
     clear d1 d2 g1 g2;
     generalize (W4.setCell ⟨w.heap.size + 1, 1, none⟩ (.string hh)).setCell ⟨w.heap.size + 1, 2, none⟩ (.int .i64 p) = W5 at *;
     refine (HQ.out _).mono ?_;
     rintro o W5' ⟨rfl, hw⟩;
     rw [hw];
     clear hw hsa hsb;
     cases hq : Lib.hasPrefix B.data.toList [47];
     · (have hrb : rooted B = ⟨#[47]⟩ ++ B := by (unfold rooted; rw [hq]; rfl);
        have hcat : ¬ (9223372036854775807 < (⟨#[47]⟩ : ByteArray).size + B.size) := by (show ¬ (9223372036854775807 < 1 + B.size); omega);
        have HRB := Lib.hid hrb;
        clear hrb;
        go_wp2_with fail;
        rw [← HRB.out];
        (obtain ⟨z, hzz⟩ : ∃ z, locL (cutP (rooted B)).data.toList (cutQ (rooted B)).data.toList = z := ⟨_, rfl⟩;
         have HZZ := Lib.hid hzz;
         have HE5 := Lib.hid (hE.out.chg HT5.out.ch);
         have HBL : Hid (Blk W5 (w.heap.size + 1) (tgt 2 hh p ⟨#[]⟩ ⟨#[]⟩ false) 76) := Lib.hid HT5.out.tg;
         have hrl := rooted_len B;
         clear hzz;
         generalize rooted B = r at *;
         refine (local_any (w.heap.size + 1) 2 p hh ⟨#[]⟩ ⟨#[]⟩ false r _ (by omega) HE5 HBL z HZZ.out).mono ?_;
         rintro o W6 ⟨rfl, H6⟩;
         have HT2 := Lib.hid (HT5.out.chgB H6.out.1 H6.out.2);
         have d0 := HT2.out.tg.cell 0 _ rfl;
         have d1 := HT2.out.tg.cell 1 _ rfl;
         have d2 := HT2.out.tg.cell 2 _ rfl;
         have d3 := HT2.out.tg.cell 3 _ rfl;
         have d4 := HT2.out.tg.cell 4 _ rfl;
         have d5 := HT2.out.tg.cell 5 _ rfl;
         (have c0 := HT2.out.res.cell 0 _ rfl;
          have c1 := HT2.out.res.cell 1 _ rfl;
          have c2 := HT2.out.res.cell 2 _ rfl;
          have c3 := HT2.out.res.cell 3 _ rfl;
          have c4 := HT2.out.res.cell 4 _ rfl;
          have c5 := HT2.out.res.cell 5 _ rfl;
          have f0 := HT2.out.res.free 0;
          have f1 := HT2.out.res.free 1;
          have f2 := HT2.out.res.free 2;
          have f3 := HT2.out.res.free 3;
          have f4 := HT2.out.res.free 4;
          have f5 := HT2.out.res.free 5);
         have HPZ := Lib.hid (HT2.out.put 0 0 ⟨#[]⟩ ⟨#[]⟩ ⟨#[]⟩ false);
         have HPT := Lib.hid (HT2.out.put 2 p hh (cutP r) (cutQ r) (cutA r));
         by_cases k1 : e = 0;
         · (subst k1;
            cases z;
            · (have HR := Lib.hid (show httpF R v = (zeroT, 60) from by rw [HF.out]; unfold httpG; rw [HZ.out, HZZ.out, if_neg (fun h => h rfl), if_neg (by decide)]);
               go_wp2;
               refine bodyPost_ret (results9 _ _ w.heap.size 0 0 ⟨#[]⟩ ⟨#[]⟩ ⟨#[]⟩ false 60 rfl rfl HPZ.out.1) rfl ⟨⟨_, HV.out, ?_⟩, HPZ.out.2⟩;
               rw [HR.out]; rfl)
            · (have HR := Lib.hid (show httpF R v = (tgt 2 hh p (cutP r) (cutQ r) (cutA r), 0) from by rw [HF.out]; unfold httpG; rw [HZ.out, HZZ.out, if_neg (fun h => h rfl), if_pos rfl]);
               go_wp2;
               refine bodyPost_ret (results9 _ _ w.heap.size 2 p hh (cutP r) (cutQ r) (cutA r) 0 rfl rfl HPT.out.1) rfl ⟨⟨_, HV.out, ?_⟩, HPT.out.2⟩;
               rw [HR.out]))
         · (have HR := Lib.hid (show httpF R v = (zeroT, e) from by rw [HF.out]; unfold httpG; rw [HZ.out, if_pos k1]);
            go_wp2;
            refine bodyPost_ret (results9 _ _ w.heap.size 0 0 ⟨#[]⟩ ⟨#[]⟩ ⟨#[]⟩ false e rfl rfl HPZ.out.1) rfl ⟨⟨_, HV.out, ?_⟩, HPZ.out.2⟩;
            rw [HR.out]; rfl)))
     · (have HRB := Lib.hid (show rooted B = B from by unfold rooted; rw [hq, if_pos rfl]);
        go_wp2_with fail;
        rw [← HRB.out];
        (obtain ⟨z, hzz⟩ : ∃ z, locL (cutP (rooted B)).data.toList (cutQ (rooted B)).data.toList = z := ⟨_, rfl⟩;
         have HZZ := Lib.hid hzz;
         have HE5 := Lib.hid (hE.out.chg HT5.out.ch);
         have HBL : Hid (Blk W5 (w.heap.size + 1) (tgt 2 hh p ⟨#[]⟩ ⟨#[]⟩ false) 76) := Lib.hid HT5.out.tg;
         have hrl := rooted_len B;
         clear hzz;
         generalize rooted B = r at *;
         refine (local_any (w.heap.size + 1) 2 p hh ⟨#[]⟩ ⟨#[]⟩ false r _ (by omega) HE5 HBL z HZZ.out).mono ?_;
         rintro o W6 ⟨rfl, H6⟩;
         have HT2 := Lib.hid (HT5.out.chgB H6.out.1 H6.out.2);
         have d0 := HT2.out.tg.cell 0 _ rfl;
         have d1 := HT2.out.tg.cell 1 _ rfl;
         have d2 := HT2.out.tg.cell 2 _ rfl;
         have d3 := HT2.out.tg.cell 3 _ rfl;
         have d4 := HT2.out.tg.cell 4 _ rfl;
         have d5 := HT2.out.tg.cell 5 _ rfl;
         (have c0 := HT2.out.res.cell 0 _ rfl;
          have c1 := HT2.out.res.cell 1 _ rfl;
          have c2 := HT2.out.res.cell 2 _ rfl;
          have c3 := HT2.out.res.cell 3 _ rfl;
          have c4 := HT2.out.res.cell 4 _ rfl;
          have c5 := HT2.out.res.cell 5 _ rfl;
          have f0 := HT2.out.res.free 0;
          have f1 := HT2.out.res.free 1;
          have f2 := HT2.out.res.free 2;
          have f3 := HT2.out.res.free 3;
          have f4 := HT2.out.res.free 4;
          have f5 := HT2.out.res.free 5);
         have HPZ := Lib.hid (HT2.out.put 0 0 ⟨#[]⟩ ⟨#[]⟩ ⟨#[]⟩ false);
         have HPT := Lib.hid (HT2.out.put 2 p hh (cutP r) (cutQ r) (cutA r));
         by_cases k1 : e = 0;
         · (subst k1;
            cases z;
            · (have HR := Lib.hid (show httpF R v = (zeroT, 60) from by rw [HF.out]; unfold httpG; rw [HZ.out, HZZ.out, if_neg (fun h => h rfl), if_neg (by decide)]);
               go_wp2;
               refine bodyPost_ret (results9 _ _ w.heap.size 0 0 ⟨#[]⟩ ⟨#[]⟩ ⟨#[]⟩ false 60 rfl rfl HPZ.out.1) rfl ⟨⟨_, HV.out, ?_⟩, HPZ.out.2⟩;
               rw [HR.out]; rfl)
            · (have HR := Lib.hid (show httpF R v = (tgt 2 hh p (cutP r) (cutQ r) (cutA r), 0) from by rw [HF.out]; unfold httpG; rw [HZ.out, HZZ.out, if_neg (fun h => h rfl), if_pos rfl]);
               go_wp2;
               refine bodyPost_ret (results9 _ _ w.heap.size 2 p hh (cutP r) (cutQ r) (cutA r) 0 rfl rfl HPT.out.1) rfl ⟨⟨_, HV.out, ?_⟩, HPT.out.2⟩;
               rw [HR.out]))
         · (have HR := Lib.hid (show httpF R v = (zeroT, e) from by rw [HF.out]; unfold httpG; rw [HZ.out, if_pos k1]);
            go_wp2;
            refine bodyPost_ret (results9 _ _ w.heap.size 0 0 ⟨#[]⟩ ⟨#[]⟩ ⟨#[]⟩ false e rfl rfl HPZ.out.1) rfl ⟨⟨_, HV.out, ?_⟩, HPZ.out.2⟩;
            rw [HR.out]; rfl))))
  · obtain ⟨n, hn⟩ : ∃ n : Nat, v = n := ⟨v.toNat, by omega⟩
    have hie : i = n := by rw [← hi]; unfold cutI; rw [if_neg hv0]; omega
    subst hie
    subst hn
    clear hi
    go_wp2_with fail
    (obtain ⟨hh, p, e, hz⟩ : ∃ hh p e, hostF A = (hh, p, e) := ⟨_, _, _, rfl⟩;
     have HZ := Lib.hid hz;
     clear hz;
     refine (Host_any A _ (by omega) (Lib.hid (hE.out.chg HT3.out.ch)) hh p e HZ.out).mono ?_;
     rintro o W4 ⟨rfl, H4⟩;
     have HT4 := Lib.hid (HT3.out.chg H4.out);
     clear d0 g0;
     have d1 := HT4.out.tg.cell 1 _ rfl;
     have d2 := HT4.out.tg.cell 2 _ rfl;
     have g1 := HT4.out.tg.free 1;
     have g2 := HT4.out.tg.free 2;
     have HT5 := Lib.hid ((HT4.out.set 1 (.string hh)).set 2 (.int .i64 p));
     have HQ := Lib.hid (fun w => Tryz.strings_HasPrefix B ⟨#[47]⟩ w);
     rw [show (⟨#[47]⟩ : ByteArray).data.toList = [47] from rfl] at HQ;
     go_wp2_with fail;
     clear d1 d2 g1 g2;
     generalize (W4.setCell ⟨w.heap.size + 1, 1, none⟩ (.string hh)).setCell ⟨w.heap.size + 1, 2, none⟩ (.int .i64 p) = W5 at *;
     refine (HQ.out _).mono ?_;
     rintro o W5' ⟨rfl, hw⟩;
     rw [hw];
     clear hw hsa hsb;
     cases hq : Lib.hasPrefix B.data.toList [47];
     · (have hrb : rooted B = ⟨#[47]⟩ ++ B := by (unfold rooted; rw [hq]; rfl);
        have hcat : ¬ (9223372036854775807 < (⟨#[47]⟩ : ByteArray).size + B.size) := by (show ¬ (9223372036854775807 < 1 + B.size); omega);
        have HRB := Lib.hid hrb;
        clear hrb;
        go_wp2_with fail;
        rw [← HRB.out];
        (obtain ⟨z, hzz⟩ : ∃ z, locL (cutP (rooted B)).data.toList (cutQ (rooted B)).data.toList = z := ⟨_, rfl⟩;
         have HZZ := Lib.hid hzz;
         have HE5 := Lib.hid (hE.out.chg HT5.out.ch);
         have HBL : Hid (Blk W5 (w.heap.size + 1) (tgt 2 hh p ⟨#[]⟩ ⟨#[]⟩ false) 76) := Lib.hid HT5.out.tg;
         have hrl := rooted_len B;
         clear hzz;
         generalize rooted B = r at *;
         refine (local_any (w.heap.size + 1) 2 p hh ⟨#[]⟩ ⟨#[]⟩ false r _ (by omega) HE5 HBL z HZZ.out).mono ?_;
         rintro o W6 ⟨rfl, H6⟩;
         have HT2 := Lib.hid (HT5.out.chgB H6.out.1 H6.out.2);
         have d0 := HT2.out.tg.cell 0 _ rfl;
         have d1 := HT2.out.tg.cell 1 _ rfl;
         have d2 := HT2.out.tg.cell 2 _ rfl;
         have d3 := HT2.out.tg.cell 3 _ rfl;
         have d4 := HT2.out.tg.cell 4 _ rfl;
         have d5 := HT2.out.tg.cell 5 _ rfl;
         (have c0 := HT2.out.res.cell 0 _ rfl;
          have c1 := HT2.out.res.cell 1 _ rfl;
          have c2 := HT2.out.res.cell 2 _ rfl;
          have c3 := HT2.out.res.cell 3 _ rfl;
          have c4 := HT2.out.res.cell 4 _ rfl;
          have c5 := HT2.out.res.cell 5 _ rfl;
          have f0 := HT2.out.res.free 0;
          have f1 := HT2.out.res.free 1;
          have f2 := HT2.out.res.free 2;
          have f3 := HT2.out.res.free 3;
          have f4 := HT2.out.res.free 4;
          have f5 := HT2.out.res.free 5);
         have HPZ := Lib.hid (HT2.out.put 0 0 ⟨#[]⟩ ⟨#[]⟩ ⟨#[]⟩ false);
         have HPT := Lib.hid (HT2.out.put 2 p hh (cutP r) (cutQ r) (cutA r));
         by_cases k1 : e = 0;
         · (subst k1;
            cases z;
            · (have HR := Lib.hid (show httpF R (i : Int) = (zeroT, 60) from by rw [HF.out]; unfold httpG; rw [HZ.out, HZZ.out, if_neg (fun h => h rfl), if_neg (by decide)]);
               go_wp2;
               refine bodyPost_ret (results9 _ _ w.heap.size 0 0 ⟨#[]⟩ ⟨#[]⟩ ⟨#[]⟩ false 60 rfl rfl HPZ.out.1) rfl ⟨⟨_, HV.out, ?_⟩, HPZ.out.2⟩;
               rw [HR.out]; rfl)
            · (have HR := Lib.hid (show httpF R (i : Int) = (tgt 2 hh p (cutP r) (cutQ r) (cutA r), 0) from by rw [HF.out]; unfold httpG; rw [HZ.out, HZZ.out, if_neg (fun h => h rfl), if_pos rfl]);
               go_wp2;
               refine bodyPost_ret (results9 _ _ w.heap.size 2 p hh (cutP r) (cutQ r) (cutA r) 0 rfl rfl HPT.out.1) rfl ⟨⟨_, HV.out, ?_⟩, HPT.out.2⟩;
               rw [HR.out]))
         · (have HR := Lib.hid (show httpF R (i : Int) = (zeroT, e) from by rw [HF.out]; unfold httpG; rw [HZ.out, if_pos k1]);
            go_wp2;
            refine bodyPost_ret (results9 _ _ w.heap.size 0 0 ⟨#[]⟩ ⟨#[]⟩ ⟨#[]⟩ false e rfl rfl HPZ.out.1) rfl ⟨⟨_, HV.out, ?_⟩, HPZ.out.2⟩;
            rw [HR.out]; rfl)))
     · (have HRB := Lib.hid (show rooted B = B from by unfold rooted; rw [hq, if_pos rfl]);
        go_wp2_with fail;
        rw [← HRB.out];
        (obtain ⟨z, hzz⟩ : ∃ z, locL (cutP (rooted B)).data.toList (cutQ (rooted B)).data.toList = z := ⟨_, rfl⟩;
         have HZZ := Lib.hid hzz;
         have HE5 := Lib.hid (hE.out.chg HT5.out.ch);
         have HBL : Hid (Blk W5 (w.heap.size + 1) (tgt 2 hh p ⟨#[]⟩ ⟨#[]⟩ false) 76) := Lib.hid HT5.out.tg;
         have hrl := rooted_len B;
         clear hzz;
         generalize rooted B = r at *;
         refine (local_any (w.heap.size + 1) 2 p hh ⟨#[]⟩ ⟨#[]⟩ false r _ (by omega) HE5 HBL z HZZ.out).mono ?_;
         rintro o W6 ⟨rfl, H6⟩;
         have HT2 := Lib.hid (HT5.out.chgB H6.out.1 H6.out.2);
         have d0 := HT2.out.tg.cell 0 _ rfl;
         have d1 := HT2.out.tg.cell 1 _ rfl;
         have d2 := HT2.out.tg.cell 2 _ rfl;
         have d3 := HT2.out.tg.cell 3 _ rfl;
         have d4 := HT2.out.tg.cell 4 _ rfl;
         have d5 := HT2.out.tg.cell 5 _ rfl;
         (have c0 := HT2.out.res.cell 0 _ rfl;
          have c1 := HT2.out.res.cell 1 _ rfl;
          have c2 := HT2.out.res.cell 2 _ rfl;
          have c3 := HT2.out.res.cell 3 _ rfl;
          have c4 := HT2.out.res.cell 4 _ rfl;
          have c5 := HT2.out.res.cell 5 _ rfl;
          have f0 := HT2.out.res.free 0;
          have f1 := HT2.out.res.free 1;
          have f2 := HT2.out.res.free 2;
          have f3 := HT2.out.res.free 3;
          have f4 := HT2.out.res.free 4;
          have f5 := HT2.out.res.free 5);
         have HPZ := Lib.hid (HT2.out.put 0 0 ⟨#[]⟩ ⟨#[]⟩ ⟨#[]⟩ false);
         have HPT := Lib.hid (HT2.out.put 2 p hh (cutP r) (cutQ r) (cutA r));
         by_cases k1 : e = 0;
         · (subst k1;
            cases z;
            · (have HR := Lib.hid (show httpF R (i : Int) = (zeroT, 60) from by rw [HF.out]; unfold httpG; rw [HZ.out, HZZ.out, if_neg (fun h => h rfl), if_neg (by decide)]);
               go_wp2;
               refine bodyPost_ret (results9 _ _ w.heap.size 0 0 ⟨#[]⟩ ⟨#[]⟩ ⟨#[]⟩ false 60 rfl rfl HPZ.out.1) rfl ⟨⟨_, HV.out, ?_⟩, HPZ.out.2⟩;
               rw [HR.out]; rfl)
            · (have HR := Lib.hid (show httpF R (i : Int) = (tgt 2 hh p (cutP r) (cutQ r) (cutA r), 0) from by rw [HF.out]; unfold httpG; rw [HZ.out, HZZ.out, if_neg (fun h => h rfl), if_pos rfl]);
               go_wp2;
               refine bodyPost_ret (results9 _ _ w.heap.size 2 p hh (cutP r) (cutQ r) (cutA r) 0 rfl rfl HPT.out.1) rfl ⟨⟨_, HV.out, ?_⟩, HPT.out.2⟩;
               rw [HR.out]))
         · (have HR := Lib.hid (show httpF R (i : Int) = (zeroT, e) from by rw [HF.out]; unfold httpG; rw [HZ.out, if_pos k1]);
            go_wp2;
            refine bodyPost_ret (results9 _ _ w.heap.size 0 0 ⟨#[]⟩ ⟨#[]⟩ ⟨#[]⟩ false e rfl rfl HPZ.out.1) rfl ⟨⟨_, HV.out, ?_⟩, HPZ.out.2⟩;
            rw [HR.out]; rfl))))
end Go.Proofs.YtjndgkbikhndoaaGreatDoor

namespace Go.Proofs.YtjndgkbikhndoaaGreatDoor
open Go.RowKit Go.ChangeShapes Go.WideShapes
set_option linter.unusedVariables false

/-- What Parse says; v: where the library finds the first of / and ? behind http://. -/
def parseF (m s : ByteArray) (v : Int) : List Value × Int :=
  if 8192 < s.size then (zeroT, 2)
  else if (m.toList == [67, 79, 78, 78, 69, 67, 84]) = true then connF s
  else if (s.toList == [42]) = true then (if (m.toList == [79, 80, 84, 73, 79, 78, 83]) = true then (tgt 4 ⟨#[]⟩ (-1) ⟨#[]⟩ ⟨#[]⟩ false, 0) else (zeroT, 60))
  else if Lib.hasPrefix s.data.toList [47] = true then slashF s
  else if isHttp s = true then httpF (s.extract 7 s.size) v
  else (zeroT, 60)
theorem parse_any (m s : ByteArray) (w : World) (hE : Hid (Env w)) :
    Calls Tryz.prog 45 #[.string m, .string s] w fun o w' => (∃ v, IxOK (s.extract 7 s.size).data.toList v ∧ o = .returned (.tuple #[.agg (parseF m s v).1.toArray, .int .i64 (parseF m s v).2])) ∧ Hid (Chg [] w w') := by
  unfold parseF
  by_cases h : 8192 < s.size
  · refine (parse_long m s w h).mono ?_
    rintro o w' ⟨rfl, H⟩
    exact ⟨⟨_, ixok_any _, by rw [if_pos h]⟩, H⟩
  have h' : s.size ≤ 8192 := by omega
  simp only [if_neg h]
  cases k : (m.toList == [67, 79, 78, 78, 69, 67, 84])
  · simp only [Bool.false_eq_true, if_false]
    cases k2 : (s.toList == [42])
    · simp only [Bool.false_eq_true, if_false]
      cases k3 : Lib.hasPrefix s.data.toList [47]
      · simp only [Bool.false_eq_true, if_false]
        cases k4 : isHttp s
        · simp only [Bool.false_eq_true, if_false]
          refine (parse_other m s w h' k k2 k3 k4).mono ?_
          rintro o w' ⟨rfl, H⟩
          exact ⟨⟨_, ixok_any _, rfl⟩, H⟩
        · simp only [if_true]
          exact parse_http m s w hE h' k k2 k3 k4
      · simp only [if_true]
        refine (parse_slash m s w hE h' k k2 k3).mono ?_
        rintro o w' ⟨rfl, H⟩
        exact ⟨⟨_, ixok_any _, rfl⟩, H⟩
    · simp only [if_true]
      refine (parse_star m s w h' k k2 _ rfl).mono ?_
      rintro o w' ⟨rfl, H⟩
      refine ⟨⟨_, ixok_any _, ?_⟩, H⟩
      cases (m.toList == [79, 80, 84, 73, 79, 78, 83]) <;> rfl
  · simp only [if_true]
    refine (parse_conn m s w hE h' k).mono ?_
    rintro o w' ⟨rfl, H⟩
    exact ⟨⟨_, ixok_any _, rfl⟩, H⟩
end Go.Proofs.YtjndgkbikhndoaaGreatDoor

namespace Go.Proofs.YtjndgkbikhndoaaGreatDoor
open Go.RowKit Go.ChangeShapes Go.WideShapes
set_option linter.unusedVariables false

/-- A byte that may stand in a head's line. -/
def okB (c : UInt8) : Prop := 33 ≤ c.toNat ∧ c.toNat ≤ 126
def AllOk (l : List UInt8) : Prop := ∀ c ∈ l, okB c
theorem AllOk.append {a b : List UInt8} (h : AllOk a) (k : AllOk b) : AllOk (a ++ b) := fun c hc => (List.mem_append.1 hc).elim (h c) (k c)
theorem AllOk.cons {c : UInt8} {b : List UInt8} (h : okB c) (k : AllOk b) : AllOk (c :: b) := fun d hd => (List.mem_cons.1 hd).elim (fun e => e ▸ h) (k d)
theorem AllOk.nil : AllOk [] := fun c hc => by cases hc
theorem hexI_ok {c : UInt8} (h : hexI (c.toNat : Int) = true) : okB c := by
  unfold hexI at h
  simp at h
  unfold okB
  omega
theorem alnI_ok {c : UInt8} (h : alnI (c.toNat : Int) = true) : okB c := by
  unfold alnI at h
  simp at h
  unfold okB
  omega
theorem made_ok {M : List UInt8} (hM : AllOk M) : ∀ (n : Nat) (l : List UInt8), l.length ≤ n → madeL M l = true → AllOk l
  | _, [], _, _ => AllOk.nil
  | 0, c :: r, h, _ => by simp at h
  | n + 1, c :: r, hn, h => by
    rw [List.length_cons] at hn
    cases ha : alnI (c.toNat : Int)
    · by_cases h37 : c = 37
      · subst h37
        match r, h, hn with
        | [], h, _ => rw [made_pct1 (by simp)] at h; cases h
        | [_], h, _ => rw [made_pct1 (by simp)] at h; cases h
        | a :: b :: q, h, hn =>
          rw [made_pct] at h
          simp only [Bool.and_eq_true] at h
          exact AllOk.cons ⟨by decide, by decide⟩ (AllOk.cons (hexI_ok h.1.1) (AllOk.cons (hexI_ok h.1.2) (made_ok hM n q (by simp at hn; omega) h.2)))
      · rw [made_oth ha h37, Bool.and_eq_true] at h
        exact AllOk.cons (hM c (List.contains_iff_mem.1 h.1)) (made_ok hM n r (by omega) h.2)
    · rw [made_aln ha] at h
      exact AllOk.cons (alnI_ok ha) (made_ok hM n r (by omega) h)
theorem hostMore_ok : AllOk hostMore := by
  intro c hc
  have : ∀ c ∈ hostMore, 33 ≤ c.toNat ∧ c.toNat ≤ 126 := by decide
  exact this c hc
theorem pathMore_ok : AllOk pathMore := by
  intro c hc
  have : ∀ c ∈ pathMore, 33 ≤ c.toNat ∧ c.toNat ≤ 126 := by decide
  exact this c hc
theorem qryMore_ok : AllOk qryMore := by
  intro c hc
  have : ∀ c ∈ qryMore, 33 ≤ c.toNat ∧ c.toNat ≤ 126 := by decide
  exact this c hc
theorem badR_hi {r : Nat} (h : 128 ≤ r) : badR r = true := by
  unfold badR
  rw [decide_eq_true (show 127 < r by omega)]
  rfl
theorem idx_good : ∀ (f : Nat) (s : ByteArray) (pos : Nat), s.size ≤ pos + f → (Lib.idxFuncFrom badR true s f pos < 0 ↔ ∀ c ∈ s.data.toList.drop pos, badR c.toNat = false)
  | 0, s, pos, h => by
    rw [List.drop_eq_nil_of_le (by rw [toList_len]; omega)]
    unfold Lib.idxFuncFrom
    exact ⟨fun _ c hc => by simp at hc, fun _ => by decide⟩
  | f + 1, s, pos, h => by
    unfold Lib.idxFuncFrom
    by_cases hp : pos < s.size
    · rw [if_pos hp, drop_get (toList_get s pos hp)]
      by_cases h8 : (s[pos]'hp).toNat < 128
      · rw [decode_ascii s pos hp h8]
        have ih := idx_good f s (pos + 1) (by omega)
        cases hb : badR (s[pos]'hp).toNat
        · rw [if_neg (by simp)]
          rw [ih]
          refine ⟨fun k c hc => ?_, fun k c hc => k c (List.mem_cons_of_mem _ hc)⟩
          rcases List.mem_cons.1 hc with e | e
          · rw [e]; exact hb
          · exact k c e
        · rw [if_pos rfl]
          refine ⟨fun k => by omega, fun k => ?_⟩
          have := k _ List.mem_cons_self
          rw [hb] at this
          cases this
      · have hd := (decode_high s pos hp (by omega)).1
        rw [if_pos (badR_hi hd)]
        refine ⟨fun k => by omega, fun k => ?_⟩
        have := k _ List.mem_cons_self
        rw [badR_hi (by omega)] at this
        cases this
    · rw [if_neg hp, List.drop_eq_nil_of_le (by rw [toList_len]; omega)]
      exact ⟨fun _ c hc => by simp at hc, fun _ => by decide⟩
theorem idx_iff (l : List UInt8) : Lib.idxFunc badR true ⟨l.toArray⟩ < 0 ↔ ∀ c ∈ l, badR c.toNat = false := by
  have := idx_good (⟨l.toArray⟩ : ByteArray).size ⟨l.toArray⟩ 0 (by omega)
  rw [List.drop_zero] at this
  exact this
theorem badR_ok {c : UInt8} (h : badR c.toNat = false) : okB c := by
  unfold badR at h
  rw [Bool.or_eq_false_iff] at h
  obtain ⟨h1, h2⟩ := h
  cases hx : hexI ((c.toNat : Nat) : Int)
  · rw [hx] at h2
    simp at h2
    unfold okB
    by_cases h58 : c.toNat = 58
    · omega
    · have := h2 h58
      omega
  · exact hexI_ok hx
theorem host_ok {l : List UInt8} (h : hostL l = true) : AllOk l := by
  unfold hostL at h
  cases hp : Lib.hasPrefix l [91]
  · rw [hp, if_neg (by decide)] at h
    simp only [Bool.and_eq_true] at h
    exact made_ok hostMore_ok _ l (Nat.le_refl _) h.2.2
  · rw [hp, if_pos rfl] at h
    simp only [Bool.and_eq_true] at h
    obtain ⟨h1, h2, h3⟩ := h
    have h3 := (idx_iff _).1 (of_decide_eq_true h3)
    obtain ⟨r, rfl⟩ : ∃ r, l = 91 :: r := by
      unfold Lib.hasPrefix at hp
      match l, hp with
      | [], hp => simp [List.isPrefixOf] at hp
      | c :: r, hp =>
        simp [List.isPrefixOf] at hp
        exact ⟨r, by rw [← hp]⟩
    have e1 : Lib.trimPrefix (91 :: r) [91] = r := by
      unfold Lib.trimPrefix
      rw [hp, if_pos rfl]
      rfl
    rw [e1] at h1 h3
    unfold Lib.trimSuffix at h3
    rw [h1, if_pos rfl] at h3
    unfold Lib.hasSuffix at h1
    obtain ⟨t, ht⟩ := List.isSuffixOf_iff_suffix.1 h1
    rw [← ht] at h3 ⊢
    rw [List.length_append, Nat.add_sub_cancel, List.take_left] at h3
    exact AllOk.cons ⟨by decide, by decide⟩ (AllOk.append (fun c hc => badR_ok (h3 c hc)) (AllOk.cons ⟨by decide, by decide⟩ AllOk.nil))
theorem numGo_ok : ∀ (l : List UInt8) (n : Nat) (b : Bool), (numGo n b l).2 ≠ 50 → AllOk l
  | [], _, _, _ => AllOk.nil
  | c :: r, n, b, h => by
    by_cases hd : 48 ≤ c.toNat ∧ c.toNat ≤ 57
    · refine AllOk.cons ⟨by omega, by omega⟩ ?_
      cases b
      · rw [num_dig0 hd] at h
        exact numGo_ok r _ _ h
      · rw [num_dig1 hd] at h
        exact numGo_ok r _ _ h
    · rw [num_no hd] at h
      exact absurd rfl h
theorem numF_ok {l : List UInt8} (h : (numF l).2 = 0) : AllOk l := by
  unfold numF at h
  split at h
  · cases h
  · exact numGo_ok l 0 false (by rw [h]; decide)
theorem hostG_safe {n d : ByteArray} (h : (hostG n d).2.2 = 0) : AllOk n.data.toList ∧ AllOk d.data.toList := by
  cases k1 : hostL n.data.toList
  · rw [hostG_no k1] at h
    exact absurd h (by decide)
  · refine ⟨host_ok k1, ?_⟩
    cases k2 : d.toList.isEmpty
    · obtain ⟨a, b, hab⟩ : ∃ a b, numF d.data.toList = (a, b) := ⟨_, _, rfl⟩
      by_cases h4 : b ≠ 0 ∨ 5 < d.size ∨ 65535 < a
      · rw [hostG_bad k1 k2 hab h4] at h
        exact absurd h (by show (62 : Int) ≠ 0; decide)
      · refine numF_ok ?_
        rw [hab]
        by_cases hb : b = 0
        · exact hb
        · exact absurd (.inl hb) h4
    · rw [Lib.toList_data, List.isEmpty_iff] at k2
      rw [k2]
      exact AllOk.nil
theorem ext_data (s : ByteArray) (a b : Nat) : (s.extract a b).data.toList = (s.data.toList.drop a).take (b - a) := by
  rw [ByteArray.data_extract]
  simp [List.take_drop]
theorem ext_to (s : ByteArray) (b : Nat) : (s.extract 0 b).data.toList = s.data.toList.take b := by
  rw [ext_data]; simp
theorem ext_from (s : ByteArray) (a : Nat) : (s.extract a s.size).data.toList = s.data.toList.drop a := by
  rw [ext_data]
  refine List.take_of_length_le ?_
  rw [List.length_drop, toList_len]
  omega
theorem colon_at {s : ByteArray} (h : 0 ≤ colonI s) : ∃ k : Nat, colonI s = k ∧ k < s.size ∧ ∃ c, s.data.toList[k]? = some c ∧ c.toNat = 58 := by
  unfold colonI at h ⊢
  split at h
  · omega
  · rename_i hlt
    rw [if_neg hlt]
    rcases Lib.lastIndexByte_spec s 58 with ⟨q, -⟩ | ⟨i, q1, q2, q3, -⟩
    · omega
    · refine ⟨i, q2, q1, _, toList_get s i q1, ?_⟩
      have : s.data[i]! = s[i]'q1 := by
        rw [getElem!_pos s.data i q1]
        rfl
      rw [this] at q3
      omega
theorem hostF_safe {s : ByteArray} (h : (hostF s).2.2 = 0) : AllOk s.data.toList := by
  unfold hostF at h
  obtain ⟨h1, h2⟩ := hostG_safe h
  unfold nameB at h1
  unfold digB at h2
  by_cases hc : 0 ≤ colonI s
  · rw [if_pos hc] at h1 h2
    obtain ⟨k, hk, hks, c, hcl, hc58⟩ := colon_at hc
    rw [hk, Int.toNat_natCast] at h1 h2
    rw [ext_to] at h1
    rw [ext_from] at h2
    rw [← List.take_append_drop k s.data.toList, drop_get hcl]
    exact h1.append (AllOk.cons ⟨by omega, by omega⟩ h2)
  · rw [if_neg hc] at h1
    exact h1
theorem cut_join (l : List UInt8) : l = (Lib.cut l [63]).1 ∨ l = (Lib.cut l [63]).1 ++ 63 :: (Lib.cut l [63]).2.1 := by
  unfold Lib.cut
  split
  · right
    rename_i h
    rw [Lib.index_one] at h ⊢
    have : ∀ (l : List UInt8), 0 ≤ Lib.indexByte l 63 → l = l.take (Lib.indexByte l 63).toNat ++ 63 :: l.drop ((Lib.indexByte l 63).toNat + 1) := by
      intro l
      induction l with
      | nil => intro h; simp [Lib.indexByte] at h
      | cons b r ih =>
        intro h
        unfold Lib.indexByte at h ⊢
        by_cases hb : (b == 63) = true
        · rw [if_pos hb]
          rw [beq_iff_eq.1 hb]
          rfl
        · rw [if_neg hb] at h ⊢
          by_cases hm : (Lib.indexByte r 63 == -1) = true
          · rw [if_pos hm] at h; omega
          · rw [if_neg hm] at h ⊢
            have hge := Lib.indexByte_ge r 63
            have hne : Lib.indexByte r 63 ≠ -1 := fun e => hm (beq_iff_eq.2 e)
            have ih := ih (by omega)
            rw [show (Lib.indexByte r 63 + 1).toNat = (Lib.indexByte r 63).toNat + 1 by omega, List.take_succ_cons, List.drop_succ_cons, List.cons_append, ← ih]
    exact this l h
  · left; rfl
theorem loc_safe {s : ByteArray} (h : locL (cutP s).data.toList (cutQ s).data.toList = true) : AllOk s.data.toList := by
  unfold locL at h
  simp only [Bool.and_eq_true] at h
  have h1 : AllOk (Lib.cut s.data.toList [63]).1 := made_ok pathMore_ok _ _ (Nat.le_refl _) h.2.1
  have h2 : AllOk (Lib.cut s.data.toList [63]).2.1 := made_ok qryMore_ok _ _ (Nat.le_refl _) h.2.2
  rcases cut_join s.data.toList with e | e
  · rw [e]; exact h1
  · rw [e]; exact h1.append (AllOk.cons ⟨by decide, by decide⟩ h2)
theorem zero60 : ((zeroT, (60 : Int)) : List Value × Int).2 ≠ 0 := by decide
theorem low_ok {l : List UInt8} (h : AllOk (l.map lowB)) : AllOk l := by
  intro c hc
  have := h _ (List.mem_map_of_mem hc)
  unfold okB at this ⊢
  unfold lowB at this
  split at this
  · omega
  · exact this
theorem low_toList (s : ByteArray) : (low s).toList = s.data.toList.map lowB := by
  rw [Lib.toList_data]
  rfl
theorem rooted_safe {B : ByteArray} (h : AllOk (rooted B).data.toList) : AllOk B.data.toList := by
  unfold rooted at h
  split at h
  · exact h
  · rw [ByteArray.data_append, Array.toList_append] at h
    exact fun c hc => h c (List.mem_append_right _ hc)
theorem parse_safe {m s : ByteArray} {v : Int} (hv : IxOK (s.extract 7 s.size).data.toList v) (h : (parseF m s v).2 = 0) : AllOk s.data.toList := by
  unfold parseF at h
  split at h
  · exact absurd h (by show (2 : Int) ≠ 0; decide)
  split at h
  · unfold connF at h
    split at h
    · rename_i k
      exact absurd h k
    · rename_i k
      exact hostF_safe (Decidable.not_not.1 k)
  split at h
  · rename_i k
    rw [beq_iff_eq, Lib.toList_data] at k
    rw [k]
    exact AllOk.cons ⟨by decide, by decide⟩ AllOk.nil
  split at h
  · unfold slashF at h
    split at h
    · rename_i k
      exact loc_safe k
    · exact absurd h (by show (60 : Int) ≠ 0; decide)
  split at h
  · rename_i k
    unfold isHttp at k
    rw [Bool.and_eq_true] at k
    have h7 := of_decide_eq_true k.1
    have k2 := of_decide_eq_true k.2
    rw [low_toList, low_toList] at k2
    have hh : AllOk (s.data.toList.take 7) := by
      rw [← ext_to]
      refine low_ok ?_
      rw [k2]
      intro c hc
      have : ∀ c ∈ http7.data.toList.map lowB, 33 ≤ c.toNat ∧ c.toNat ≤ 126 := by decide
      exact this c hc
    rw [← List.take_append_drop 7 s.data.toList]
    refine hh.append ?_
    rw [← ext_from]
    generalize s.extract 7 s.size = R at *
    unfold httpF httpG at h
    split at h
    · rename_i q
      exact absurd h q
    · rename_i q
      have h1 := hostF_safe (Decidable.not_not.1 q)
      split at h
      · rename_i q2
        have h2 := rooted_safe (loc_safe q2)
        rw [ext_to] at h1
        rw [ext_from] at h2
        rw [← List.take_append_drop (cutI R v) R.data.toList]
        exact h1.append h2
      · exact absurd h (by show (60 : Int) ≠ 0; decide)
  · exact absurd h (by show (60 : Int) ≠ 0; decide)
end Go.Proofs.YtjndgkbikhndoaaGreatDoor
