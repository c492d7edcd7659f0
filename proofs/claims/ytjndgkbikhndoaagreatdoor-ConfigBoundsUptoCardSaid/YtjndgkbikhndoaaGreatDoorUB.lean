/- Layer 6: the reference's Parse, whole; what is taken is taken alike; a target's text. -/
import Derived.Test.YtjndgkbikhndoaaGreatDoorTD
import Derived.Test.YtjndgkbikhndoaaGreatDoorUA
namespace Go.Proofs.YtjndgkbikhndoaaGreatDoor
open Go.RowKit Go.ChangeShapes Go.WideShapes
set_option linter.unusedVariables false

/-- Where the first of / and ? stands behind http://. -/
def ixOf (s : ByteArray) : Int := Lib.indexAny (s.extract 7 s.size).data.toList [47, 63]
theorem rparse_any (m s : ByteArray) (w : World) :
    Calls Tryz.prog 83 #[.string m, .string s] w fun o w' => o = .returned (.tuple #[.agg (parseF m s (ixOf s)).1.toArray, .int .i64 (parseF m s (ixOf s)).2]) ∧ Hid (Chg [] w w') := by
  unfold parseF
  by_cases h : 8192 < s.size
  · rw [if_pos h]
    exact rparse_long m s w h
  have h' : s.size ≤ 8192 := by omega
  simp only [if_neg h]
  cases k : (m.toList == [67, 79, 78, 78, 69, 67, 84])
  · simp only [Bool.false_eq_true, if_false]
    cases k2 : (s.toList == [42])
    · simp only [Bool.false_eq_true, if_false]
      cases k3 : Lib.hasPrefix s.data.toList [47]
      · simp only [Bool.false_eq_true, if_false]
        cases k4 : isHttp s
        · simp only [Bool.false_eq_true, if_false]
          exact rparse_other m s w h' k k2 k3 k4
        · simp only [if_true]
          exact rparse_http m s w h' k k2 k3 k4 _ rfl
      · simp only [if_true]
        exact rparse_slash m s w h' k k2 k3
    · simp only [if_true]
      refine (rparse_star m s w h' k k2 _ rfl).mono ?_
      rintro o w' ⟨rfl, H⟩
      refine ⟨?_, H⟩
      cases (m.toList == [79, 80, 84, 73, 79, 78, 83]) <;> rfl
  · simp only [if_true]
    exact rparse_conn m s w h' k
theorem parse_same {m s : ByteArray} {v : Int} (hv : IxOK (s.extract 7 s.size).data.toList v) (h : (parseF m s v).2 = 0) : v = ixOf s := by
  have hs := parse_safe hv h
  refine hv.2.2 (.inr fun b hb => ?_)
  rw [data_ext] at hb
  have := hs b (List.mem_of_mem_drop (List.mem_of_mem_take hb))
  unfold okB at this
  omega
/-- Taken, with just this target. -/
def takes (m s : ByteArray) (vs : List Value) : Prop := parseF m s (ixOf s) = (vs, 0)
theorem takes_any {m s : ByteArray} {v : Int} (hv : IxOK (s.extract 7 s.size).data.toList v) (vs : List Value) : parseF m s v = (vs, 0) ↔ takes m s vs := by
  unfold takes
  constructor
  · intro h
    rw [← parse_same hv (by rw [h])]
    exact h
  · intro h
    have hs := parse_safe (ixok_any _) (show (parseF m s (ixOf s)).2 = 0 by rw [h])
    have : v = ixOf s := hv.2.2 (.inr fun b hb => by
      rw [data_ext] at hb
      have := hs b (List.mem_of_mem_drop (List.mem_of_mem_take hb))
      unfold okB at this
      omega)
    rw [this]
    exact h
theorem tgt_inj {f f' p p' : Int} {h h' pa pa' q q' : ByteArray} {a a' : Bool} : tgt f h p pa q a = tgt f' h' p' pa' q' a' ↔ (f = f' ∧ h = h' ∧ p = p' ∧ pa = pa' ∧ q = q' ∧ a = a') := by
  unfold tgt
  constructor
  · intro e
    simp only [List.cons.injEq, Value.int.injEq, Value.string.injEq, Value.bool.injEq, and_true, true_and] at e
    exact e
  · rintro ⟨rfl, rfl, rfl, rfl, rfl, rfl⟩
    rfl
theorem parseF_form (m s : ByteArray) (v : Int) : ∃ f h p pa q a, (parseF m s v).1 = tgt f h p pa q a := by
  have z : ∃ f h p pa q a, zeroT = tgt f h p pa q a := ⟨_, _, _, _, _, _, rfl⟩
  unfold parseF
  split
  · exact z
  split
  · unfold connF
    split
    · exact z
    · split
      · exact z
      · exact ⟨_, _, _, _, _, _, rfl⟩
  split
  · split
    · exact ⟨_, _, _, _, _, _, rfl⟩
    · exact z
  split
  · unfold slashF
    split
    · exact ⟨_, _, _, _, _, _, rfl⟩
    · exact z
  split
  · unfold httpF httpG
    split
    · exact z
    · split
      · exact ⟨_, _, _, _, _, _, rfl⟩
      · exact z
  · exact z
theorem bytes_eq (a b : ByteArray) : (a.toList == b.toList) = decide (a = b) := by
  rw [Bool.eq_iff_iff, beq_iff_eq, decide_eq_true_eq, Lib.toList_data, Lib.toList_data]
  constructor
  · intro e
    rw [ofList a _ e, ← ofList b _ rfl]
  · intro e
    rw [e]
end Go.Proofs.YtjndgkbikhndoaaGreatDoor
