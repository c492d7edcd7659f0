/- Layer 5 (bytes): Same, both sides. -/
import Derived.Test.YtiimofejcakgoaaDoorE2
namespace Go.Proofs.YtiimofejcakgoaaDoor
open Go.RowKit Go.ChangeShapes Go.WideShapes
set_option linter.unusedVariables false

def low (s : ByteArray) : ByteArray := ⟨(s.data.toList.map lowB).toArray⟩
theorem same_any (a b : ByteArray) (w : World) (ha : a.size ≤ 1048576) (hb : b.size ≤ 1048576) (z : Bool) (hz : decide ((low a).toList = (low b).toList) = z) :
    Calls Tryd.prog 34 #[.string a, .string b] w fun e w' => e = .returned (.bool z) ∧ Hid (Chg [] w w') := by
  have HZ := Lib.hid hz
  clear hz
  go_enter Tryd.func34, Tryd.ntmps34
  go_wp2_with fail
  refine (lower_any a _ ha).mono ?_
  rintro e w1 ⟨rfl, H1⟩
  go_wp2_with fail
  refine (lower_any b _ hb).mono ?_
  rintro e w2 ⟨rfl, H2⟩
  have hl1 : (⟨(a.data.toList.map lowB).toArray⟩ : ByteArray) = low a := rfl
  have hl2 : (⟨(b.data.toList.map lowB).toArray⟩ : ByteArray) = low b := rfl
  rw [hl1, hl2]
  clear hl1 hl2
  go_wp2_with fail
  go_ret
  refine ⟨?_, H1.out.trans H2.out (by simp)⟩
  rw [← HZ.out]
  first
  | rfl
  | (congr 2; by_cases h : (low a).toList = (low b).toList <;> simp [h])
theorem rsame_any (a b : ByteArray) (w : World) (ha : a.size ≤ 1048576) (hb : b.size ≤ 1048576) (z : Bool) (hz : decide ((low a).toList = (low b).toList) = z) :
    Calls Tryd.prog 23 #[.string a, .string b] w fun e w' => e = .returned (.bool z) ∧ Hid (Chg [] w w') := by
  have HZ := Lib.hid hz
  clear hz
  go_enter Tryd.func23, Tryd.ntmps23
  go_wp2_with fail
  refine (rlower_any a _ ha).mono ?_
  rintro e w1 ⟨rfl, H1⟩
  go_wp2_with fail
  refine (rlower_any b _ hb).mono ?_
  rintro e w2 ⟨rfl, H2⟩
  have hl1 : (⟨(a.data.toList.map lowB).toArray⟩ : ByteArray) = low a := rfl
  have hl2 : (⟨(b.data.toList.map lowB).toArray⟩ : ByteArray) = low b := rfl
  rw [hl1, hl2]
  clear hl1 hl2
  go_wp2_with fail
  go_ret
  refine ⟨?_, H1.out.trans H2.out (by simp)⟩
  rw [← HZ.out]
  first
  | rfl
  | (congr 2; by_cases h : (low a).toList = (low b).toList <;> simp [h])
end Go.Proofs.YtiimofejcakgoaaDoor
