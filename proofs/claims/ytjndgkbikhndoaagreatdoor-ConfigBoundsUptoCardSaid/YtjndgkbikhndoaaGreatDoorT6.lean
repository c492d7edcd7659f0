/- Layer 6: local. -/
import Derived.Test.YtjndgkbikhndoaaGreatDoorT5
namespace Go.Proofs.YtjndgkbikhndoaaGreatDoor
open Go.RowKit Go.ChangeShapes Go.WideShapes
set_option linter.unusedVariables false

def pathMore : List UInt8 := [45, 46, 95, 126, 33, 36, 38, 39, 40, 41, 42, 43, 44, 59, 61, 58, 64, 47]
def qryMore : List UInt8 := [45, 46, 95, 126, 33, 36, 38, 39, 40, 41, 42, 43, 44, 59, 61, 58, 64, 47, 63]
/-- Are a path and a query good ones? -/
def locL (p q : List UInt8) : Bool := Lib.hasPrefix p [47] && (madeL pathMore p && madeL qryMore q)
def cutP (s : ByteArray) : ByteArray := ⟨(Lib.cut s.data.toList [63]).1.toArray⟩
def cutQ (s : ByteArray) : ByteArray := ⟨(Lib.cut s.data.toList [63]).2.1.toArray⟩
def cutA (s : ByteArray) : Bool := (Lib.cut s.data.toList [63]).2.2
theorem cut_len (l p : List UInt8) : (Lib.cut l p).1.length ≤ l.length ∧ (Lib.cut l p).2.1.length ≤ l.length := by
  unfold Lib.cut
  split
  · exact ⟨by rw [List.length_take]; omega, by rw [List.length_drop]; omega⟩
  · exact ⟨Nat.le_refl _, Nat.zero_le _⟩
theorem cutP_len (s : ByteArray) : (cutP s).size ≤ s.size := by
  have := (cut_len s.data.toList [63]).1
  rw [toList_len] at this
  rw [← toList_len]
  exact this
theorem cutQ_len (s : ByteArray) : (cutQ s).size ≤ s.size := by
  have := (cut_len s.data.toList [63]).2
  rw [toList_len] at this
  rw [← toList_len]
  exact this
/-- A target that lies in a block. -/
def tgt (f : Int) (h : ByteArray) (p : Int) (pa q : ByteArray) (a : Bool) : List Value := [.int .i64 f, .string h, .int .i64 p, .string pa, .string q, .bool a]
set_option maxHeartbeats 4000000 in
set_option maxRecDepth 100000 in
theorem local_any (b : Nat) (f p : Int) (h pa q : ByteArray) (a : Bool) (s : ByteArray) (w : World) (hs : s.size ≤ 1048576) (hE : Hid (Env w)) (hB : Hid (Blk w b (tgt f h p pa q a) 76)) (z : Bool) (hz : locL (cutP s).data.toList (cutQ s).data.toList = z) :
    Calls Tryz.prog 67 #[.pointer (some ⟨b, 0, none⟩), .string s] w fun o w' => o = .returned (.bool z) ∧ Hid (Blk w' b (tgt f h p (cutP s) (cutQ s) (cutA s)) 76 ∧ Chg [b] w w') := by
  obtain ⟨⟨m, hm⟩, -⟩ := hE.out
  have HC := Lib.hid (Tryz.strings_Cut s ⟨#[63]⟩ m w (by omega) hm)
  rw [show (⟨#[63]⟩ : ByteArray).data.toList = [63] from rfl] at HC
  have hl1 := cutP_len s
  have hl2 := cutQ_len s
  have hHC : Hid (Calls Tryz.prog 92 #[.string s, .string ⟨#[63]⟩] w fun e w' => e = .returned (.tuple #[.string (cutP s), .string (cutQ s), .bool (cutA s)]) ∧ ∃ n, w' = w.drewN n) := HC
  clear HC hm
  generalize cutP s = P at *
  generalize cutQ s = Q at *
  generalize cutA s = A at *
  have H1 := Lib.hid (fun w => Tryz.strings_HasPrefix P ⟨#[47]⟩ w)
  have H2 := Lib.hid (fun w => made_any P ⟨#[45, 46, 95, 126, 33, 36, 38, 39, 40, 41, 42, 43, 44, 59, 61, 58, 64, 47]⟩ w (by omega))
  have H3 := Lib.hid (fun w => made_any Q ⟨#[45, 46, 95, 126, 33, 36, 38, 39, 40, 41, 42, 43, 44, 59, 61, 58, 64, 47, 63]⟩ w (by omega))
  rw [show (⟨#[47]⟩ : ByteArray).data.toList = [47] from rfl] at H1
  rw [show (⟨#[45, 46, 95, 126, 33, 36, 38, 39, 40, 41, 42, 43, 44, 59, 61, 58, 64, 47]⟩ : ByteArray).data.toList = pathMore from rfl] at H2
  rw [show (⟨#[45, 46, 95, 126, 33, 36, 38, 39, 40, 41, 42, 43, 44, 59, 61, 58, 64, 47, 63]⟩ : ByteArray).data.toList = qryMore from rfl] at H3
  unfold locL at hz
  generalize Lib.hasPrefix P.data.toList [47] = b1 at *
  generalize madeL pathMore P.data.toList = b2 at *
  generalize madeL qryMore Q.data.toList = b3 at *
  clear hl1 hl2
  go_enter Tryz.func67, Tryz.ntmps67
  go_wp2_with fail
  refine hHC.out.mono ?_
  rintro e w1 ⟨rfl, n, hw⟩
  have HW := Lib.hid (show Chg [b] w w1 from by rw [hw]; exact (Chg.refl [b] w).drewN n)
  have HB := Lib.hid (show Blk w1 b (tgt f h p pa q a) 76 from by rw [hw]; exact hB.out.drewN n)
  clear hw
  have c3 := HB.out.cell 3 _ rfl
  have c4 := HB.out.cell 4 _ rfl
  have c5 := HB.out.cell 5 _ rfl
  have f3 := HB.out.free 3
  have f4 := HB.out.free 4
  have f5 := HB.out.free 5
  have S := ((HB.out.set 3 (.string P)).set 4 (.string Q)).set 5 (.bool A)
  have HS := Lib.hid S
  have d3 := S.cell 3 (.string P) rfl
  have d4 := S.cell 4 (.string Q) rfl
  clear S
  go_wp2_with fail
  have HW2 := Lib.hid (((HW.out.setCell (p := ⟨b, 3, none⟩) (by simp) (.string P)).setCell (p := ⟨b, 4, none⟩) (by simp) (.string Q)).setCell (p := ⟨b, 5, none⟩) (by simp) (.bool A))
  clear c3 c4 c5 f3 f4 f5
  generalize ((w1.setCell ⟨b, 3, none⟩ (.string P)).setCell ⟨b, 4, none⟩ (.string Q)).setCell ⟨b, 5, none⟩ (.bool A) = w2 at *
  refine (H1.out _).mono ?_
  rintro e w3 ⟨rfl, rfl⟩
  cases b1
  · have HZ := Lib.hid hz
    clear hz
    go_wp2
    go_ret
    exact ⟨by rw [← HZ.out]; rfl, HS.out, HW2.out⟩
  · go_wp2_with fail
    refine (H2.out _).mono ?_
    rintro e w4 ⟨rfl, rfl⟩
    cases b2
    · have HZ := Lib.hid hz
      clear hz
      go_wp2
      go_ret
      exact ⟨by rw [← HZ.out]; rfl, HS.out, HW2.out⟩
    · go_wp2_with fail
      refine (H3.out _).mono ?_
      rintro e w5 ⟨rfl, rfl⟩
      have HZ := Lib.hid hz
      clear hz
      go_wp2
      go_ret
      exact ⟨by rw [← HZ.out]; rfl, HS.out, HW2.out⟩
end Go.Proofs.YtjndgkbikhndoaaGreatDoor
