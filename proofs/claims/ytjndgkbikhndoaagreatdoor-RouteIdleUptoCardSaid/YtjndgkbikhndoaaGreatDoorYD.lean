/- Layer 14 (route): how long a request's host and path may be. -/
import Derived.Test.YtjndgkbikhndoaaGreatDoorY8
namespace Go.Proofs.YtjndgkbikhndoaaGreatDoor
open Go.RowKit Go.ChangeShapes Go.WideShapes
set_option linter.unusedVariables false

theorem low_size (s : ByteArray) : (low s).size = s.size := by
  rw [← toList_len, ← toList_len]
  show (s.data.toList.map lowB).toArray.toList.length = _
  rw [List.length_map]
theorem name_size (s : ByteArray) : (nameB s).size ≤ s.size := by
  unfold nameB
  split
  · exact ext_size _ _ _
  · exact Nat.le_refl _
theorem host_size (s : ByteArray) : (hostF s).1.size ≤ s.size := by
  have h := name_size s
  unfold hostF hostG
  split
  · exact Nat.zero_le _
  · split
    · show (low (nameB s)).size ≤ _
      rw [low_size]; exact h
    · split
      · exact Nat.zero_le _
      · show (low (nameB s)).size ≤ _
        rw [low_size]; exact h
theorem clean_size (s : ByteArray) : (cleanF s).1.size ≤ 100000000 := by
  unfold cleanF
  split
  · exact Nat.zero_le _
  · split
    · exact Nat.zero_le _
    · rename_i h1 h2
      show (cleanB (s.extract 1 s.size)).size ≤ _
      have he : (s.extract 1 s.size).size ≤ 8192 := Nat.le_trans (ext_size _ _ _) (by omega)
      generalize s.extract 1 s.size = u at *
      have hc := count_le u
      have hp := parts_len u
      have hl : (cleanL [] (partsB u)).length ≤ 8193 := by
        have := cleanL_len (partsB u) []
        simp at this
        omega
      have ha : ∀ y ∈ cleanL [] (partsB u), y.size ≤ 8192 := cleanL_all (P := fun y => y.size ≤ 8192) (Nat.zero_le _) (partsB u) [] (fun y hy => by cases hy) (fun y hy _ _ => Nat.le_trans (splitB_size _ _ _ y hy) he)
      have hj := inter_len [47] 8192 ((cleanL [] (partsB u)).map (·.data.toList)) (fun y hy => by
        obtain ⟨t, ht, rfl⟩ := List.mem_map.1 hy
        rw [toList_len]
        exact ha t ht)
      rw [List.length_map] at hj
      unfold cleanB
      rw [ByteArray.size_append]
      show 1 + (Lib.join ((cleanL [] (partsB u)).map (·.data.toList)) [47]).toArray.size ≤ _
      rw [List.size_toArray]
      have hm : (cleanL [] (partsB u)).length * (8192 + [47].length) ≤ 8193 * 8193 := Nat.mul_le_mul hl (by decide)
      omega
theorem parse_size {m s : ByteArray} {v f p er : Int} {th tp q : ByteArray} {a : Bool} (h : parseF m s v = (tgt f th p tp q a, er)) : th.size ≤ s.size + 1 := by
  have tz : ∀ {e : Int}, (zeroT, e) = (tgt f th p tp q a, er) → th.size ≤ s.size + 1 := fun h => by
    obtain ⟨-, q2, -⟩ := tgt_inj.1 (Prod.mk.inj h).1
    rw [← q2]
    exact Nat.zero_le _
  unfold parseF at h
  split at h
  · exact tz h
  · split at h
    · unfold connF at h
      split at h
      · exact tz h
      · split at h
        · exact tz h
        · obtain ⟨-, q2, -⟩ := tgt_inj.1 (Prod.mk.inj h).1
          rw [← q2]
          have := host_size s
          omega
    · split at h
      · split at h
        · obtain ⟨-, q2, -⟩ := tgt_inj.1 (Prod.mk.inj h).1
          rw [← q2]
          exact Nat.zero_le _
        · exact tz h
      · split at h
        · unfold slashF at h
          split at h
          · obtain ⟨-, q2, -⟩ := tgt_inj.1 (Prod.mk.inj h).1
            rw [← q2]
            exact Nat.zero_le _
          · exact tz h
        · split at h
          · unfold httpF httpG at h
            split at h
            · exact tz h
            · split at h
              · obtain ⟨-, q2, -⟩ := tgt_inj.1 (Prod.mk.inj h).1
                rw [← q2]
                have h1 := host_size ((s.extract 7 s.size).extract 0 (cutI (s.extract 7 s.size) v))
                have h2 := ext_size (s.extract 7 s.size) 0 (cutI (s.extract 7 s.size) v)
                have h3 := ext_size s 7 s.size
                omega
              · exact tz h
          · exact tz h
theorem place_sz {h : Hd} {r : ByteArray × ByteArray × Int} (hp : PlaceIs h r) (hz : HdSz h) : r.1.size ≤ 1048577 ∧ r.2.1.size ≤ 100000000 := by
  rcases hp with ⟨-, rfl⟩ | ⟨-, v, f, th, p, tp, q, a, er, -, hpf, rfl⟩
  · exact ⟨Nat.zero_le _, Nat.zero_le _⟩
  · have h1 := parse_size hpf
    have h2 := hz.target
    have hho : (hostOf h th).1.size ≤ 1048577 := by
      unfold hostOf
      split
      · exact Nat.zero_le _
      · split
        · split
          · show th.size ≤ _
            omega
          · exact Nat.zero_le _
        · rename_i x l hl
          have hx := allB_size h.fields hostN hz.fs x (by rw [hl]; simp)
          have := host_size x
          show (hostF x).1.size ≤ _
          omega
    have hcl := clean_size tp
    unfold placeG
    split
    · split
      · exact ⟨Nat.zero_le _, Nat.zero_le _⟩
      · dsimp only
        by_cases k2 : f = 2
        · rw [if_pos k2, if_pos rfl]
          refine ⟨?_, ?_⟩
          · show th.size ≤ _
            omega
          · show (if f = 4 then slB else (cleanF tp).1).size ≤ _
            split
            · decide +kernel
            · exact hcl
        · rw [if_neg k2]
          split
          · refine ⟨hho, ?_⟩
            show (if f = 4 then slB else (cleanF tp).1).size ≤ _
            split
            · decide +kernel
            · exact hcl
          · exact ⟨Nat.zero_le _, Nat.zero_le _⟩
    · exact ⟨Nat.zero_le _, Nat.zero_le _⟩
end Go.Proofs.YtjndgkbikhndoaaGreatDoor
