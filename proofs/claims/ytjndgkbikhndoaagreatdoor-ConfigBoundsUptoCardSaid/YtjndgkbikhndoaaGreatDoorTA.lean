/- Layer 6: Parse, under one statement. -/
import Derived.Test.YtjndgkbikhndoaaGreatDoorT9
namespace Go.Proofs.YtjndgkbikhndoaaGreatDoor
open Go.RowKit Go.ChangeShapes Go.WideShapes
set_option linter.unusedVariables false

/-- What Parse says; v: where the library finds the first of / and ? behind http://. -/
def parseF (m s : ByteArray) (v : Int) : List Value × Int :=
  if 8192 < s.size then (zeroT, 2)
  else if (m.toList == [67, 79, 78, 78, 69, 67, 84]) = true then connF s
  else if (s.toList == [42]) = true then (if (m.toList == [79, 80, 84, 73, 79, 78, 83]) = true then (tgt 4 ⟨#[]⟩ (-1) ⟨#[]⟩ ⟨#[]⟩ false, 0) else (zeroT, 60))
  else if Lib.hasPrefix s.data.toList [47] = true then slashF s
  else if isHttp s = true then httpF (s.extract 7 s.size) v
  else (zeroT, 60)
theorem parse_any (m s : ByteArray) (w : World) (hE : Hid (Env w)) :
    Calls Tryz.prog 45 #[.string m, .string s] w fun o w' => (∃ v, IxOK (s.extract 7 s.size).data.toList v ∧ o = .returned (.tuple #[.agg (parseF m s v).1.toArray, .int .i64 (parseF m s v).2])) ∧ Hid (Chg [] w w') := by
  unfold parseF
  by_cases h : 8192 < s.size
  · refine (parse_long m s w h).mono ?_
    rintro o w' ⟨rfl, H⟩
    exact ⟨⟨_, ixok_any _, by rw [if_pos h]⟩, H⟩
  have h' : s.size ≤ 8192 := by omega
  simp only [if_neg h]
  cases k : (m.toList == [67, 79, 78, 78, 69, 67, 84])
  · simp only [Bool.false_eq_true, if_false]
    cases k2 : (s.toList == [42])
    · simp only [Bool.false_eq_true, if_false]
      cases k3 : Lib.hasPrefix s.data.toList [47]
      · simp only [Bool.false_eq_true, if_false]
        cases k4 : isHttp s
        · simp only [Bool.false_eq_true, if_false]
          refine (parse_other m s w h' k k2 k3 k4).mono ?_
          rintro o w' ⟨rfl, H⟩
          exact ⟨⟨_, ixok_any _, rfl⟩, H⟩
        · simp only [if_true]
          exact parse_http m s w hE h' k k2 k3 k4
      · simp only [if_true]
        refine (parse_slash m s w hE h' k k2 k3).mono ?_
        rintro o w' ⟨rfl, H⟩
        exact ⟨⟨_, ixok_any _, rfl⟩, H⟩
    · simp only [if_true]
      refine (parse_star m s w h' k k2 _ rfl).mono ?_
      rintro o w' ⟨rfl, H⟩
      refine ⟨⟨_, ixok_any _, ?_⟩, H⟩
      cases (m.toList == [79, 80, 84, 73, 79, 78, 83]) <;> rfl
  · simp only [if_true]
    refine (parse_conn m s w hE h' k).mono ?_
    rintro o w' ⟨rfl, H⟩
    exact ⟨⟨_, ixok_any _, rfl⟩, H⟩
end Go.Proofs.YtjndgkbikhndoaaGreatDoor
