/- Layer 6, in plain words: what a host, a path, a target are made of. -/
import Derived.Test.YtjndgkbikhndoaaGreatDoorTA
namespace Go.Proofs.YtjndgkbikhndoaaGreatDoor
open Go.RowKit Go.ChangeShapes Go.WideShapes
set_option linter.unusedVariables false

/-- A byte that may stand in a head's line. -/
def okB (c : UInt8) : Prop := 33 ≤ c.toNat ∧ c.toNat ≤ 126
def AllOk (l : List UInt8) : Prop := ∀ c ∈ l, okB c
theorem AllOk.append {a b : List UInt8} (h : AllOk a) (k : AllOk b) : AllOk (a ++ b) := fun c hc => (List.mem_append.1 hc).elim (h c) (k c)
theorem AllOk.cons {c : UInt8} {b : List UInt8} (h : okB c) (k : AllOk b) : AllOk (c :: b) := fun d hd => (List.mem_cons.1 hd).elim (fun e => e ▸ h) (k d)
theorem AllOk.nil : AllOk [] := fun c hc => by cases hc
theorem hexI_ok {c : UInt8} (h : hexI (c.toNat : Int) = true) : okB c := by
  unfold hexI at h
  simp at h
  unfold okB
  omega
theorem alnI_ok {c : UInt8} (h : alnI (c.toNat : Int) = true) : okB c := by
  unfold alnI at h
  simp at h
  unfold okB
  omega
theorem made_ok {M : List UInt8} (hM : AllOk M) : ∀ (n : Nat) (l : List UInt8), l.length ≤ n → madeL M l = true → AllOk l
  | _, [], _, _ => AllOk.nil
  | 0, c :: r, h, _ => by simp at h
  | n + 1, c :: r, hn, h => by
    rw [List.length_cons] at hn
    cases ha : alnI (c.toNat : Int)
    · by_cases h37 : c = 37
      · subst h37
        match r, h, hn with
        | [], h, _ => rw [made_pct1 (by simp)] at h; cases h
        | [_], h, _ => rw [made_pct1 (by simp)] at h; cases h
        | a :: b :: q, h, hn =>
          rw [made_pct] at h
          simp only [Bool.and_eq_true] at h
          exact AllOk.cons ⟨by decide, by decide⟩ (AllOk.cons (hexI_ok h.1.1) (AllOk.cons (hexI_ok h.1.2) (made_ok hM n q (by simp at hn; omega) h.2)))
      · rw [made_oth ha h37, Bool.and_eq_true] at h
        exact AllOk.cons (hM c (List.contains_iff_mem.1 h.1)) (made_ok hM n r (by omega) h.2)
    · rw [made_aln ha] at h
      exact AllOk.cons (alnI_ok ha) (made_ok hM n r (by omega) h)
theorem hostMore_ok : AllOk hostMore := by
  intro c hc
  have : ∀ c ∈ hostMore, 33 ≤ c.toNat ∧ c.toNat ≤ 126 := by decide
  exact this c hc
theorem pathMore_ok : AllOk pathMore := by
  intro c hc
  have : ∀ c ∈ pathMore, 33 ≤ c.toNat ∧ c.toNat ≤ 126 := by decide
  exact this c hc
theorem qryMore_ok : AllOk qryMore := by
  intro c hc
  have : ∀ c ∈ qryMore, 33 ≤ c.toNat ∧ c.toNat ≤ 126 := by decide
  exact this c hc
theorem badR_hi {r : Nat} (h : 128 ≤ r) : badR r = true := by
  unfold badR
  rw [decide_eq_true (show 127 < r by omega)]
  rfl
theorem idx_good : ∀ (f : Nat) (s : ByteArray) (pos : Nat), s.size ≤ pos + f → (Lib.idxFuncFrom badR true s f pos < 0 ↔ ∀ c ∈ s.data.toList.drop pos, badR c.toNat = false)
  | 0, s, pos, h => by
    rw [List.drop_eq_nil_of_le (by rw [toList_len]; omega)]
    unfold Lib.idxFuncFrom
    exact ⟨fun _ c hc => by simp at hc, fun _ => by decide⟩
  | f + 1, s, pos, h => by
    unfold Lib.idxFuncFrom
    by_cases hp : pos < s.size
    · rw [if_pos hp, drop_get (toList_get s pos hp)]
      by_cases h8 : (s[pos]'hp).toNat < 128
      · rw [decode_ascii s pos hp h8]
        have ih := idx_good f s (pos + 1) (by omega)
        cases hb : badR (s[pos]'hp).toNat
        · rw [if_neg (by simp)]
          rw [ih]
          refine ⟨fun k c hc => ?_, fun k c hc => k c (List.mem_cons_of_mem _ hc)⟩
          rcases List.mem_cons.1 hc with e | e
          · rw [e]; exact hb
          · exact k c e
        · rw [if_pos rfl]
          refine ⟨fun k => by omega, fun k => ?_⟩
          have := k _ List.mem_cons_self
          rw [hb] at this
          cases this
      · have hd := (decode_high s pos hp (by omega)).1
        rw [if_pos (badR_hi hd)]
        refine ⟨fun k => by omega, fun k => ?_⟩
        have := k _ List.mem_cons_self
        rw [badR_hi (by omega)] at this
        cases this
    · rw [if_neg hp, List.drop_eq_nil_of_le (by rw [toList_len]; omega)]
      exact ⟨fun _ c hc => by simp at hc, fun _ => by decide⟩
theorem idx_iff (l : List UInt8) : Lib.idxFunc badR true ⟨l.toArray⟩ < 0 ↔ ∀ c ∈ l, badR c.toNat = false := by
  have := idx_good (⟨l.toArray⟩ : ByteArray).size ⟨l.toArray⟩ 0 (by omega)
  rw [List.drop_zero] at this
  exact this
theorem badR_ok {c : UInt8} (h : badR c.toNat = false) : okB c := by
  unfold badR at h
  rw [Bool.or_eq_false_iff] at h
  obtain ⟨h1, h2⟩ := h
  cases hx : hexI ((c.toNat : Nat) : Int)
  · rw [hx] at h2
    simp at h2
    unfold okB
    by_cases h58 : c.toNat = 58
    · omega
    · have := h2 h58
      omega
  · exact hexI_ok hx
theorem host_ok {l : List UInt8} (h : hostL l = true) : AllOk l := by
  unfold hostL at h
  cases hp : Lib.hasPrefix l [91]
  · rw [hp, if_neg (by decide)] at h
    simp only [Bool.and_eq_true] at h
    exact made_ok hostMore_ok _ l (Nat.le_refl _) h.2.2
  · rw [hp, if_pos rfl] at h
    simp only [Bool.and_eq_true] at h
    obtain ⟨h1, h2, h3⟩ := h
    have h3 := (idx_iff _).1 (of_decide_eq_true h3)
    obtain ⟨r, rfl⟩ : ∃ r, l = 91 :: r := by
      unfold Lib.hasPrefix at hp
      match l, hp with
      | [], hp => simp [List.isPrefixOf] at hp
      | c :: r, hp =>
        simp [List.isPrefixOf] at hp
        exact ⟨r, by rw [← hp]⟩
    have e1 : Lib.trimPrefix (91 :: r) [91] = r := by
      unfold Lib.trimPrefix
      rw [hp, if_pos rfl]
      rfl
    rw [e1] at h1 h3
    unfold Lib.trimSuffix at h3
    rw [h1, if_pos rfl] at h3
    unfold Lib.hasSuffix at h1
    obtain ⟨t, ht⟩ := List.isSuffixOf_iff_suffix.1 h1
    rw [← ht] at h3 ⊢
    rw [List.length_append, Nat.add_sub_cancel, List.take_left] at h3
    exact AllOk.cons ⟨by decide, by decide⟩ (AllOk.append (fun c hc => badR_ok (h3 c hc)) (AllOk.cons ⟨by decide, by decide⟩ AllOk.nil))
theorem numGo_ok : ∀ (l : List UInt8) (n : Nat) (b : Bool), (numGo n b l).2 ≠ 50 → AllOk l
  | [], _, _, _ => AllOk.nil
  | c :: r, n, b, h => by
    by_cases hd : 48 ≤ c.toNat ∧ c.toNat ≤ 57
    · refine AllOk.cons ⟨by omega, by omega⟩ ?_
      cases b
      · rw [num_dig0 hd] at h
        exact numGo_ok r _ _ h
      · rw [num_dig1 hd] at h
        exact numGo_ok r _ _ h
    · rw [num_no hd] at h
      exact absurd rfl h
theorem numF_ok {l : List UInt8} (h : (numF l).2 = 0) : AllOk l := by
  unfold numF at h
  split at h
  · cases h
  · exact numGo_ok l 0 false (by rw [h]; decide)
theorem hostG_safe {n d : ByteArray} (h : (hostG n d).2.2 = 0) : AllOk n.data.toList ∧ AllOk d.data.toList := by
  cases k1 : hostL n.data.toList
  · rw [hostG_no k1] at h
    exact absurd h (by decide)
  · refine ⟨host_ok k1, ?_⟩
    cases k2 : d.toList.isEmpty
    · obtain ⟨a, b, hab⟩ : ∃ a b, numF d.data.toList = (a, b) := ⟨_, _, rfl⟩
      by_cases h4 : b ≠ 0 ∨ 5 < d.size ∨ 65535 < a
      · rw [hostG_bad k1 k2 hab h4] at h
        exact absurd h (by show (62 : Int) ≠ 0; decide)
      · refine numF_ok ?_
        rw [hab]
        by_cases hb : b = 0
        · exact hb
        · exact absurd (.inl hb) h4
    · rw [Lib.toList_data, List.isEmpty_iff] at k2
      rw [k2]
      exact AllOk.nil
theorem ext_data (s : ByteArray) (a b : Nat) : (s.extract a b).data.toList = (s.data.toList.drop a).take (b - a) := by
  rw [ByteArray.data_extract]
  simp [List.take_drop]
theorem ext_to (s : ByteArray) (b : Nat) : (s.extract 0 b).data.toList = s.data.toList.take b := by
  rw [ext_data]; simp
theorem ext_from (s : ByteArray) (a : Nat) : (s.extract a s.size).data.toList = s.data.toList.drop a := by
  rw [ext_data]
  refine List.take_of_length_le ?_
  rw [List.length_drop, toList_len]
  omega
theorem colon_at {s : ByteArray} (h : 0 ≤ colonI s) : ∃ k : Nat, colonI s = k ∧ k < s.size ∧ ∃ c, s.data.toList[k]? = some c ∧ c.toNat = 58 := by
  unfold colonI at h ⊢
  split at h
  · omega
  · rename_i hlt
    rw [if_neg hlt]
    rcases Lib.lastIndexByte_spec s 58 with ⟨q, -⟩ | ⟨i, q1, q2, q3, -⟩
    · omega
    · refine ⟨i, q2, q1, _, toList_get s i q1, ?_⟩
      have : s.data[i]! = s[i]'q1 := by
        rw [getElem!_pos s.data i q1]
        rfl
      rw [this] at q3
      omega
theorem hostF_safe {s : ByteArray} (h : (hostF s).2.2 = 0) : AllOk s.data.toList := by
  unfold hostF at h
  obtain ⟨h1, h2⟩ := hostG_safe h
  unfold nameB at h1
  unfold digB at h2
  by_cases hc : 0 ≤ colonI s
  · rw [if_pos hc] at h1 h2
    obtain ⟨k, hk, hks, c, hcl, hc58⟩ := colon_at hc
    rw [hk, Int.toNat_natCast] at h1 h2
    rw [ext_to] at h1
    rw [ext_from] at h2
    rw [← List.take_append_drop k s.data.toList, drop_get hcl]
    exact h1.append (AllOk.cons ⟨by omega, by omega⟩ h2)
  · rw [if_neg hc] at h1
    exact h1
theorem cut_join (l : List UInt8) : l = (Lib.cut l [63]).1 ∨ l = (Lib.cut l [63]).1 ++ 63 :: (Lib.cut l [63]).2.1 := by
  unfold Lib.cut
  split
  · right
    rename_i h
    rw [Lib.index_one] at h ⊢
    have : ∀ (l : List UInt8), 0 ≤ Lib.indexByte l 63 → l = l.take (Lib.indexByte l 63).toNat ++ 63 :: l.drop ((Lib.indexByte l 63).toNat + 1) := by
      intro l
      induction l with
      | nil => intro h; simp [Lib.indexByte] at h
      | cons b r ih =>
        intro h
        unfold Lib.indexByte at h ⊢
        by_cases hb : (b == 63) = true
        · rw [if_pos hb]
          rw [beq_iff_eq.1 hb]
          rfl
        · rw [if_neg hb] at h ⊢
          by_cases hm : (Lib.indexByte r 63 == -1) = true
          · rw [if_pos hm] at h; omega
          · rw [if_neg hm] at h ⊢
            have hge := Lib.indexByte_ge r 63
            have hne : Lib.indexByte r 63 ≠ -1 := fun e => hm (beq_iff_eq.2 e)
            have ih := ih (by omega)
            rw [show (Lib.indexByte r 63 + 1).toNat = (Lib.indexByte r 63).toNat + 1 by omega, List.take_succ_cons, List.drop_succ_cons, List.cons_append, ← ih]
    exact this l h
  · left; rfl
theorem loc_safe {s : ByteArray} (h : locL (cutP s).data.toList (cutQ s).data.toList = true) : AllOk s.data.toList := by
  unfold locL at h
  simp only [Bool.and_eq_true] at h
  have h1 : AllOk (Lib.cut s.data.toList [63]).1 := made_ok pathMore_ok _ _ (Nat.le_refl _) h.2.1
  have h2 : AllOk (Lib.cut s.data.toList [63]).2.1 := made_ok qryMore_ok _ _ (Nat.le_refl _) h.2.2
  rcases cut_join s.data.toList with e | e
  · rw [e]; exact h1
  · rw [e]; exact h1.append (AllOk.cons ⟨by decide, by decide⟩ h2)
theorem zero60 : ((zeroT, (60 : Int)) : List Value × Int).2 ≠ 0 := by decide
theorem low_ok {l : List UInt8} (h : AllOk (l.map lowB)) : AllOk l := by
  intro c hc
  have := h _ (List.mem_map_of_mem hc)
  unfold okB at this ⊢
  unfold lowB at this
  split at this
  · omega
  · exact this
theorem low_toList (s : ByteArray) : (low s).toList = s.data.toList.map lowB := by
  rw [Lib.toList_data]
  rfl
theorem rooted_safe {B : ByteArray} (h : AllOk (rooted B).data.toList) : AllOk B.data.toList := by
  unfold rooted at h
  split at h
  · exact h
  · rw [ByteArray.data_append, Array.toList_append] at h
    exact fun c hc => h c (List.mem_append_right _ hc)
theorem parse_safe {m s : ByteArray} {v : Int} (hv : IxOK (s.extract 7 s.size).data.toList v) (h : (parseF m s v).2 = 0) : AllOk s.data.toList := by
  unfold parseF at h
  split at h
  · exact absurd h (by show (2 : Int) ≠ 0; decide)
  split at h
  · unfold connF at h
    split at h
    · rename_i k
      exact absurd h k
    · rename_i k
      exact hostF_safe (Decidable.not_not.1 k)
  split at h
  · rename_i k
    rw [beq_iff_eq, Lib.toList_data] at k
    rw [k]
    exact AllOk.cons ⟨by decide, by decide⟩ AllOk.nil
  split at h
  · unfold slashF at h
    split at h
    · rename_i k
      exact loc_safe k
    · exact absurd h (by show (60 : Int) ≠ 0; decide)
  split at h
  · rename_i k
    unfold isHttp at k
    rw [Bool.and_eq_true] at k
    have h7 := of_decide_eq_true k.1
    have k2 := of_decide_eq_true k.2
    rw [low_toList, low_toList] at k2
    have hh : AllOk (s.data.toList.take 7) := by
      rw [← ext_to]
      refine low_ok ?_
      rw [k2]
      intro c hc
      have : ∀ c ∈ http7.data.toList.map lowB, 33 ≤ c.toNat ∧ c.toNat ≤ 126 := by decide
      exact this c hc
    rw [← List.take_append_drop 7 s.data.toList]
    refine hh.append ?_
    rw [← ext_from]
    generalize s.extract 7 s.size = R at *
    unfold httpF httpG at h
    split at h
    · rename_i q
      exact absurd h q
    · rename_i q
      have h1 := hostF_safe (Decidable.not_not.1 q)
      split at h
      · rename_i q2
        have h2 := rooted_safe (loc_safe q2)
        rw [ext_to] at h1
        rw [ext_from] at h2
        rw [← List.take_append_drop (cutI R v) R.data.toList]
        exact h1.append h2
      · exact absurd h (by show (60 : Int) ≠ 0; decide)
  · exact absurd h (by show (60 : Int) ≠ 0; decide)
end Go.Proofs.YtjndgkbikhndoaaGreatDoor
