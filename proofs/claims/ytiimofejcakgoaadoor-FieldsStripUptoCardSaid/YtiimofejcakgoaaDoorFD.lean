/- A slice of fields, cut. -/
import Derived.Test.YtiimofejcakgoaaDoorFC
namespace Go.Proofs.YtiimofejcakgoaaDoor
open Go.RowKit Go.ChangeShapes Go.WideShapes Go.Maps Go.WideMaps
set_option linter.unusedVariables false

theorem elem22 : Tryd.prog.elem 22 = 36 := by kernel_rfl
theorem ht22 : Tryd.prog.underlying 22 = some (.slice (Tryd.prog.elem 22)) := by rw [elem22]; exact Tryd.underlying22
theorem Nil0.cut {a : Option Addr} {n cap : Nat} (h : Nil0 (.slice a n cap)) (m c : Nat) (a' : Option Addr) (ha : a' = none → a = none) (hm : m ≤ n) (hc : c ≤ cap) : Nil0 (.slice a' m c) := by
  intro x y e
  injection e with e1 e2 e3
  subst e1 e2 e3
  obtain ⟨h1, h2⟩ := h n cap (by rw [ha rfl])
  omega
theorem slice_to (w : World) (v : Value) (fs : List Fd) (q : Nat) (hf : Flds w v fs) (h0 : Nil0 v) (hq : q ≤ fs.length) :
    ∃ u, (∀ W, (Instr.slice 22 v none (some (.int .i64 (q : Int))) none).run Tryd.prog W = .ok u W) ∧ Flds w u (fs.take q) ∧ Nil0 u := by
  obtain ⟨a, cap, rfl, hcap, hr⟩ := hf
  have hl : (fs.take q).length = q := by rw [List.length_take, Nat.min_eq_left hq]
  refine ⟨.slice a q cap, fun W => ?_, ⟨a, cap, by rw [hl], by omega, fun hp => ?_⟩, h0.cut q cap a id hq (Nat.le_refl _)⟩
  · rw [run_slice_h (P := Tryd.prog) W 22 a fs.length cap ht22 .i64 (q : Int) (by omega) (by omega), elem22, Tryd.sizeOf36, Result.andThen_ok, Int.toNat_natCast]
    unfold sliced
    rw [Nat.sub_zero, Nat.sub_zero]
    split
    · rfl
    · cases a with
      | none => rfl
      | some ad =>
        have : ad.add 0 = ad := by unfold Addr.add; split <;> simp_all
        show Result.ok (Value.slice (some (ad.add (0 * 2))) q cap) W = _
        rw [Nat.zero_mul, this]
  · obtain ⟨b, o, rfl, hb, hx⟩ := hr (by omega)
    refine ⟨b, o, rfl, hb, fun j f hj => hx j f ?_⟩
    have := (List.getElem?_eq_some_iff.1 hj).1
    rw [List.getElem?_take] at hj
    rw [if_pos (by omega)] at hj
    exact hj
theorem slice_from (w : World) (v : Value) (fs : List Fd) (q : Nat) (hf : Flds w v fs) (h0 : Nil0 v) (hq : q ≤ fs.length) :
    ∃ u, (∀ W, (Instr.slice 22 v (some (.int .i64 (q : Int))) none none).run Tryd.prog W = .ok u W) ∧ Flds w u (fs.drop q) ∧ Nil0 u := by
  obtain ⟨a, cap, rfl, hcap, hr⟩ := hf
  have hl : (fs.drop q).length = fs.length - q := List.length_drop
  refine ⟨.slice (if cap = q then a else a.map (·.add (q * 2))) (fs.length - q) (cap - q), fun W => ?_, ⟨_, _, by rw [hl], by omega, fun hp => ?_⟩, h0.cut _ _ _ (fun e => ?_) (Nat.sub_le _ _) (Nat.sub_le _ _)⟩
  · rw [run_slice_l (P := Tryd.prog) W 22 a fs.length cap ht22 .i64 (q : Int) (by omega) (by omega), elem22, Tryd.sizeOf36, Result.andThen_ok, Int.toNat_natCast]
    rfl
  · obtain ⟨b, o, rfl, hb, hx⟩ := hr (by omega)
    rw [if_neg (by omega)]
    refine ⟨b, o + q * 2, ?_, hb, fun j f hj => ?_⟩
    · show some ((⟨b, o, none⟩ : Addr).add (q * 2)) = _
      rw [Addr.add_lit]
    · rw [List.getElem?_drop] at hj
      have := hx (q + j) f hj
      rw [show o + q * 2 + j * 2 = o + (q + j) * 2 by omega]
      exact this
  · split at e
    · exact e
    · cases a with
      | none => rfl
      | some ad => cases e
end Go.Proofs.YtiimofejcakgoaaDoor
