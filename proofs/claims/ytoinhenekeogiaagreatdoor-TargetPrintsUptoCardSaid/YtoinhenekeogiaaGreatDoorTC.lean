/- Layer 6: speaks. -/
import Derived.Test.YtoinhenekeogiaaGreatDoorTA
import Derived.Test.YtoinhenekeogiaaGreatDoorTB
namespace Go.Proofs.YtoinhenekeogiaaGreatDoor
open Go.RowKit Go.ChangeShapes Go.WideShapes
set_option linter.unusedVariables false

def xGET : ByteArray := ⟨#[71, 69, 84]⟩
def xAB : ByteArray := ⟨#[47, 97, 63, 98]⟩
def xHost : ByteArray := ⟨#[69, 120, 46, 99, 111, 109, 58, 56, 48]⟩
def xPath : ByteArray := ⟨#[47, 97, 47, 46, 47, 98, 47, 46, 46, 47, 99, 47, 46, 46]⟩
theorem sp_parse (v : Int) : parseF xGET xAB v = (tgt 1 ⟨#[]⟩ (-1) ⟨#[47, 97]⟩ ⟨#[98]⟩ true, 0) := by
  unfold parseF
  rw [if_neg (by decide), if_neg (by decide +kernel), if_neg (by decide +kernel), if_pos (by decide +kernel)]
  kernel_rfl
theorem sp_host : hostF xHost = (⟨#[101, 120, 46, 99, 111, 109]⟩, 80, 0) := by kernel_rfl
theorem sp_clean : cleanF xPath = (⟨#[47, 97, 47]⟩, 0) := by kernel_rfl
set_option maxHeartbeats 4000000 in
set_option maxRecDepth 100000 in
theorem speaks_any (w : World) (hE : Hid (Env w)) :
    Calls Tryz.prog 6 #[] w fun e w' => e = .returned (.bool true) ∧ Hid (Chg [] w w') := by
  go_enter Tryz.func6, Tryz.ntmps6
  go_wp2_with fail
  refine (parse_any xGET xAB _ hE).mono ?_
  rintro o w1 ⟨⟨v, -, rfl⟩, H1⟩
  rw [sp_parse]
  have HB := Lib.hid (Blk.new w1 (tgt 1 ⟨#[]⟩ (-1) ⟨#[47, 97]⟩ ⟨#[98]⟩ true) 23)
  have HC := Lib.hid (H1.out.alloc (.cells (tgt 1 ⟨#[]⟩ (-1) ⟨#[47, 97]⟩ ⟨#[98]⟩ true).toArray 23))
  unfold tgt at HB HC ⊢
  go_wp2_with fail
  generalize w1.alloc _ = w2 at HB HC ⊢
  generalize w1.heap.size = b at *
  refine (Host_any xHost _ (by decide) (Lib.hid (hE.out.chg HC.out)) _ _ _ sp_host).mono ?_
  rintro o w3 ⟨rfl, H3⟩
  have HB3 := Lib.hid (HB.out.chg H3.out (by simp))
  have HC3 := Lib.hid (HC.out.trans H3.out (by simp))
  go_wp2_with fail
  refine (clean_any xPath _ (Lib.hid (hE.out.chg HC3.out)) _ _ sp_clean).mono ?_
  rintro o w4 ⟨rfl, H4⟩
  have HB4 := HB3.out.chg H4.out (by simp)
  have HC4 := Lib.hid (HC3.out.trans H4.out (by simp))
  have c0 := HB4.cell 0 _ rfl
  have c3 := HB4.cell 3 _ rfl
  have c4 := HB4.cell 4 _ rfl
  have c5 := HB4.cell 5 _ rfl
  clear HB HB3 HB4
  go_wp2
  go_ret
  exact ⟨rfl, HC4.out⟩
end Go.Proofs.YtoinhenekeogiaaGreatDoor
