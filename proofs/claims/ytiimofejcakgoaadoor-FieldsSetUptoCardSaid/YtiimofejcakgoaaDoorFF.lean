/- What speaks() asks, reckoned. -/
import Derived.Test.YtiimofejcakgoaaDoorFE
namespace Go.Proofs.YtiimofejcakgoaaDoor
open Go.RowKit Go.ChangeShapes Go.WideShapes Go.Maps Go.WideMaps
set_option linter.unusedVariables false

def l3 : List Fd := [(⟨#[67, 111, 110, 110, 101, 99, 116, 105, 111, 110]⟩, ⟨#[99, 108, 111, 115, 101, 44, 32, 88, 45, 65]⟩), (⟨#[88, 45, 97]⟩, ⟨#[49]⟩), (⟨#[72, 111, 115, 116]⟩, ⟨#[104]⟩)]
def hostB : ByteArray := ⟨#[104, 111, 115, 116]⟩
def headraceB : ByteArray := ⟨#[104, 101, 97, 100, 114, 97, 99, 101]⟩
theorem spk_get : getB l3 hostB = ⟨#[104]⟩ := by decide +kernel
theorem spk_got : gotB l3 hostB = true := by decide +kernel
theorem spk_viaE : viaE 1 headraceB = 0 := by decide +kernel
theorem spk_has : hasB l3 conn ⟨#[67, 76, 79, 83, 69]⟩ = true := by decide +kernel
theorem spk_strip : stripB l3 = l3.drop 2 := by decide +kernel
theorem spk_check : checkB l3 = 0 := by decide +kernel
theorem spk_bd : BdF l3 := by
  refine ⟨by decide, by decide, fun f hf => ?_⟩
  simp only [l3, List.mem_cons, List.not_mem_nil, or_false] at hf
  rcases hf with rfl | rfl | rfl <;> decide
theorem spk_via : viaB l3 1 headraceB = l3 ++ [(viaN, ⟨#[49, 46, 49, 32, 104, 101, 97, 100, 114, 97, 99, 101]⟩)] := by
  unfold viaB
  rw [if_pos spk_viaE]
  congr 3
  refine Go.WideShapes.bytes_inj ?_
  show (viaV 1 headraceB).data.toList = _
  unfold viaV
  rw [app_list, app_list, app_list, Lib.decDigits_one (by omega)]
  rfl
end Go.Proofs.YtiimofejcakgoaaDoor
