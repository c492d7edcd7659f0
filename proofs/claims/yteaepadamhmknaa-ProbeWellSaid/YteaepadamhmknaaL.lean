/- Slices of ints that the call makes itself. They speak of no program. -/
import Derived.WalkKit
import Derived.Maps.AppendAt
import Derived.Test.YteaepadamhmknaaK
set_option linter.unusedVariables false
namespace Go.Proofs.Yteaepadamhmknaa
open Go
/-- Of element type T, one cell each. -/
def Own (T : Nat) (w : World) (v : Value) (zs : List Int) : Prop := w.ownsRow 0 T 1 v zs.length (zs.map (Value.int .i64))
theorem Own.nil (T : Nat) (w : World) : Own T w (.slice none 0 0) [] := World.ownsRow_nil _ _ _ _
theorem Own.form {T : Nat} {w : World} {v : Value} {zs : List Int} (h : Own T w v zs) : ∃ A cap, v = .slice A zs.length cap := by
  rcases h.2 with ⟨rfl, h0⟩ | ⟨g, cap, cur, rfl, _⟩
  · exact ⟨none, 0, by rw [h0]⟩
  · exact ⟨_, cap, rfl⟩
theorem Own.cell {T : Nat} {w : World} {v : Value} {zs : List Int} (h : Own T w v zs) {i : Nat} (hi : i < zs.length) : ∃ g cap, v = .slice (some ⟨g, 0, none⟩) zs.length cap ∧ ∀ i, i < zs.length → w.cell? ⟨g, i, none⟩ = some (.int .i64 (zs.getD i 0)) := by
  rcases h.2 with ⟨rfl, h0⟩ | ⟨g, cap, cur, rfl, hb, hh, h1, h2, h3, h4⟩
  · omega
  · refine ⟨g, cap, rfl, fun i hi => ?_⟩
    have hi' : (cur.toList.take (zs.length * 1))[i]? = some (.int .i64 (zs.getD i 0)) := by
      rw [h4]
      simp [List.getD_eq_getElem?_getD, hi]
    rw [List.getElem?_take] at hi'
    split at hi'
    · simp only [World.cell?, hh]
      simpa using hi'
    · cases hi'
theorem Own.kept {T : Nat} {w w' : World} {v : Value} {zs : List Int} (h : Own T w v zs) (hk : ∀ g, v.ownBlock = some g → w'.heap[g]? = w.heap[g]?) : Own T w' v zs := by
  refine ⟨h.1, ?_⟩
  rcases h.2 with h2 | ⟨g, cap, cur, rfl, hb, hh, r⟩
  · exact .inl h2
  · exact .inr ⟨g, cap, cur, rfl, hb, by rw [hk g (by simp [Value.ownBlock])]; exact hh, r⟩
theorem Own.chg {T : Nat} {F : List Nat} {w w' : World} {v : Value} {zs : List Int} (h : Own T w v zs) (hc : Chg F w w') (hF : ∀ g, v.ownBlock = some g → g ∉ F) : Own T w' v zs :=
  h.kept fun g hg => hc.block g (h.lt g hg).2 (hF g hg)
theorem own_push {T : Nat} {w : World} {v : Value} {zs : List Int} {x : Int} (h : w.ownsRow 0 T 1 v (zs.length + 1) (zs.map (Value.int .i64) ++ [.int .i64 x])) : Own T w v (zs ++ [x]) := by
  unfold Own
  simpa using h
end Go.Proofs.Yteaepadamhmknaa
