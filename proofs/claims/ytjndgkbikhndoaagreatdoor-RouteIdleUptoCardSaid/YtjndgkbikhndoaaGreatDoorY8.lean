/- Layer 14 (route): speaks. -/
import Derived.Test.YtjndgkbikhndoaaGreatDoorY7
namespace Go.Proofs.YtjndgkbikhndoaaGreatDoor
open Go.RowKit Go.ChangeShapes Go.WideShapes
set_option linter.unusedVariables false

def spT : ByteArray := ⟨#[47, 97, 47, 46, 46, 47, 98]⟩
def spF : List Fd := [(⟨#[72, 111, 115, 116]⟩, ⟨#[72, 58, 49]⟩)]
def spH : Hd := ⟨true, ⟨#[71, 69, 84]⟩, spT, 1, 0, ⟨#[]⟩, spF⟩
def hB : ByteArray := ⟨#[104]⟩
def bB : ByteArray := ⟨#[47, 98]⟩
theorem sp_parse (v : Int) : parseF GETb spT v = (tgt 1 ⟨#[]⟩ (-1) spT ⟨#[]⟩ false, 0) := by kernel_rfl
theorem sp_val : placeG spH 1 ⟨#[]⟩ spT 0 = (hB, bB, 0) := by kernel_rfl
theorem sp_place {r : ByteArray × ByteArray × Int} (h : PlaceIs spH r) : r = (hB, bB, 0) := by
  rcases h with ⟨h0, _⟩ | ⟨_, v, f, th, p, tp, q, a, er, hv, hp, hr⟩
  · cases h0
  · have hp2 : parseF GETb spT v = (tgt f th p tp q a, er) := hp
    rw [sp_parse] at hp2
    obtain ⟨h1, h2⟩ := Prod.mk.inj hp2
    obtain ⟨e1, e2, e3, e4, e5, e6⟩ := tgt_inj.1 h1
    rw [hr, ← e1, ← e2, ← e4, ← h2, sp_val]
def spM : Mt := ⟨⟨#[42, 46, 99, 111, 109]⟩, ⟨#[47]⟩, [], ⟨#[]⟩, ⟨#[]⟩⟩
def spZ : Hd := ⟨false, ⟨#[]⟩, ⟨#[]⟩, 0, 0, ⟨#[]⟩, []⟩
theorem sp_takes : takesB spM spZ ⟨#[120, 46, 99, 111, 109]⟩ ⟨#[47]⟩ = true := by kernel_rfl
theorem sp_cov1 : covB ⟨#[47, 97]⟩ ⟨#[47, 97, 47, 98]⟩ = true := by kernel_rfl
theorem sp_cov2 : covB ⟨#[47, 97]⟩ ⟨#[47, 97, 98]⟩ = false := by kernel_rfl
theorem sp_fz : BdF spF := ⟨by decide, by decide +kernel, fun f hf => by
  rw [show f = (⟨#[72, 111, 115, 116]⟩, ⟨#[72, 58, 49]⟩) from by simpa [spF] using hf]
  exact ⟨by decide +kernel, by decide +kernel⟩⟩
theorem sp_hz : HdSz spH := ⟨by decide +kernel, by decide +kernel, sp_fz⟩
theorem sp_zz : HdSz spZ := ⟨by decide +kernel, by decide +kernel, ⟨by decide, by decide +kernel, fun f hf => by cases hf⟩⟩
theorem sp_mz : MtSz spM := ⟨by decide +kernel, by decide +kernel, (fun t ht => by cases ht), by decide, by decide +kernel, by decide +kernel⟩
theorem sp_flds {w : World} {b : Nat} (h : Blk w b [.string ⟨#[72, 111, 115, 116]⟩, .string ⟨#[72, 58, 49]⟩] 56) : Flds w (.slice (some ⟨b, 0, none⟩) 1 1) spF := by
  refine ⟨_, 1, rfl, Nat.le_refl _, fun _ => ⟨b, 0, rfl, h.lt, fun j f hj => ?_⟩⟩
  match j, hj with
  | 0, hj =>
    obtain rfl : (⟨#[72, 111, 115, 116]⟩, ⟨#[72, 58, 49]⟩) = f := by simpa [spF] using hj
    exact ⟨h.cell 0 _ rfl, h.cell 1 _ rfl⟩
  | j + 1, hj => simp [spF] at hj
set_option maxHeartbeats 8000000 in
set_option maxRecDepth 100000 in
theorem ospeaks_any (w : World) (hE : Hid (Env w)) :
    Calls Tryz.prog 15 #[] w fun e w' => e = .returned (.bool true) ∧ Hid (Chg [] w w') := by
  go_enter Tryz.func15, Tryz.ntmps15
  go_wp2_with fail
  have HB := Lib.hid (Blk.new w [.string ⟨#[72, 111, 115, 116]⟩, .string ⟨#[72, 58, 49]⟩] 56)
  have HC := Lib.hid ((Chg.refl [] w).alloc (.cells #[.string ⟨#[72, 111, 115, 116]⟩, .string ⟨#[72, 58, 49]⟩] 56))
  refine (place_any spH (.slice (some ⟨w.heap.size, 0, none⟩) 1 1) _ (Lib.hid (hE.out.chg HC.out)) (Lib.hid (sp_flds HB.out)) (Lib.hid sp_hz)).mono ?_
  rintro e W2 ⟨⟨r, hr, rfl⟩, H2⟩
  obtain rfl := sp_place hr
  have HC2 := Lib.hid (HC.out.trans H2.out (by simp))
  clear hr HB HC
  unfold hB bB
  dsimp only
  go_wp2_with fail
  refine (covers_any ⟨#[47, 97]⟩ ⟨#[47, 97, 47, 98]⟩ _ (by decide +kernel) (by decide +kernel) true sp_cov1).mono ?_
  rintro e w' ⟨rfl, rfl⟩
  go_wp2_with fail
  refine (covers_any ⟨#[47, 97]⟩ ⟨#[47, 97, 98]⟩ _ (by decide +kernel) (by decide +kernel) false sp_cov2).mono ?_
  rintro e w' ⟨rfl, rfl⟩
  go_wp2_with fail
  refine (takesM_any spM spZ (.slice none 0 0) (.slice none 0 0) ⟨#[120, 46, 99, 111, 109]⟩ ⟨#[47]⟩ _ (Lib.hid ⟨none, 0, rfl, Nat.le_refl _, fun h => by simp [strRows, spM] at h⟩) (Lib.hid ⟨none, 0, rfl, Nat.le_refl _, fun h => by simp [spZ] at h⟩) (Lib.hid sp_mz) (Lib.hid sp_zz) (by decide +kernel) (by decide +kernel) true sp_takes).mono ?_
  rintro e W3 ⟨rfl, H3⟩
  go_wp2_with fail
  go_ret
  exact ⟨rfl, HC2.out.trans H3.out (by simp)⟩
end Go.Proofs.YtjndgkbikhndoaaGreatDoor
