/- Layer 13, in plain words: what Parse says of a place; turned configurations; one number changed. -/
import Derived.Test.YtjndgkbikhndoaaGreatDoorV1
namespace Go.Proofs.YtjndgkbikhndoaaGreatDoor
open Go.RowKit Go.ChangeShapes Go.WideShapes
set_option linter.unusedVariables false

theorem place_eq (s : ByteArray) (v : Int) {f p e : Int} {h pa q : ByteArray} {a : Bool} (hp : parseF GETb s v = (tgt f h p pa q a, e)) :
    (decide (e = 0) && decide (f = 1) && !a) = (decide (s.size ≤ 8192) && Lib.hasPrefix s.data.toList [47] && locL (cutP s).data.toList (cutQ s).data.toList && !cutA s) := by
  have tz : ∀ {f p : Int} {h pa q : ByteArray} {a : Bool}, zeroT = tgt f h p pa q a → f = 0 := fun e => (tgt_inj.1 e).1.symm
  unfold parseF at hp
  by_cases h8 : 8192 < s.size
  · rw [if_pos h8] at hp
    obtain ⟨h1, h2⟩ := Prod.mk.inj hp
    rw [← h2, decide_eq_false (show ¬ s.size ≤ 8192 by omega)]
    rfl
  · rw [if_neg h8, if_neg (by decide +kernel)] at hp
    rw [decide_eq_true (show s.size ≤ 8192 by omega), Bool.true_and]
    by_cases h42 : (s.toList == [42]) = true
    · rw [if_pos h42, if_neg (by decide +kernel)] at hp
      obtain ⟨h1, h2⟩ := Prod.mk.inj hp
      have hn : Lib.hasPrefix s.data.toList [47] = false := by
        rw [beq_iff_eq, Lib.toList_data] at h42
        rw [h42]
        rfl
      rw [← h2, hn]
      rfl
    · rw [if_neg h42] at hp
      by_cases h47 : Lib.hasPrefix s.data.toList [47] = true
      · rw [if_pos h47] at hp
        rw [h47, Bool.true_and]
        unfold slashF at hp
        split at hp
        · rename_i hl
          rw [hl, Bool.true_and]
          obtain ⟨h1, h2⟩ := Prod.mk.inj hp
          obtain ⟨q1, q2, q3, q4, q5, q6⟩ := tgt_inj.1 h1
          rw [← h2, ← q1, ← q6]
          rfl
        · rename_i hl
          obtain ⟨h1, h2⟩ := Prod.mk.inj hp
          rw [← h2, Bool.eq_false_iff.2 hl]
          rfl
      · rw [if_neg h47] at hp
        rw [Bool.eq_false_iff.2 h47, Bool.false_and, Bool.false_and]
        split at hp
        · unfold httpF httpG at hp
          split at hp
          · rename_i hne
            obtain ⟨h1, h2⟩ := Prod.mk.inj hp
            rw [← h2, decide_eq_false hne]
            rfl
          · split at hp
            · obtain ⟨h1, h2⟩ := Prod.mk.inj hp
              obtain ⟨q1, -⟩ := tgt_inj.1 h1
              rw [← q1]
              simp
            · obtain ⟨h1, h2⟩ := Prod.mk.inj hp
              rw [← h2]
              rfl
        · obtain ⟨h1, h2⟩ := Prod.mk.inj hp
          rw [← h2]
          rfl
theorem nodup_rev {α : Type} {l : List α} : l.reverse.Nodup ↔ l.Nodup := by
  unfold List.Nodup
  rw [List.pairwise_reverse]
  constructor <;> (intro h; exact h.imp (fun h e => h e.symm))
/-- Hosts and routes turned about. -/
def Cf.turned (c : Cf) : Cf := { c with hosts := c.hosts.reverse, routes := c.routes.reverse }
theorem right_turned (c : Cf) : rightB c.turned = rightB c := by
  unfold rightB Cf.turned pathOK Cf.nums
  simp only [List.length_reverse, List.all_reverse, List.map_reverse]
  rw [show decide ((c.hosts.map (fun x => x.name)).reverse.Nodup) = decide (c.hosts.map (fun x => x.name)).Nodup from decide_eq_decide.2 nodup_rev]
theorem buf_turned (c : Cf) : bufN c.turned = bufN c := by
  unfold bufN Cf.turned capsN
  simp only [List.map_reverse, List.sum_reverse]
end Go.Proofs.YtjndgkbikhndoaaGreatDoor
