/- Layer 6, in plain words: a path's parts, and what cleaning does to them. -/
import Derived.Test.YtoinhenekeogiaaDoorTB
namespace Go.Proofs.YtoinhenekeogiaaDoor
open Go.RowKit Go.ChangeShapes Go.WideShapes
set_option linter.unusedVariables false

def mk (l : List UInt8) : ByteArray := ⟨l.toArray⟩
theorem mk_list (l : List UInt8) : (mk l).data.toList = l := rfl
theorem mk_eq {s : ByteArray} {l : List UInt8} (h : s.data.toList = l) : s = mk l := by
  cases s with
  | mk d =>
    unfold mk
    rw [← h]
/-- The parts between the slashes, as one goes. -/
def partsL : List UInt8 → List UInt8 → List (List UInt8)
  | cur, [] => [cur]
  | cur, c :: l => if c = 47 then cur :: partsL [] l else partsL (cur ++ [c]) l
theorem partsL_sl (cur l : List UInt8) : partsL cur (47 :: l) = cur :: partsL [] l := by
  rw [partsL.eq_def]
  simp
theorem partsL_no {cur l : List UInt8} {c : UInt8} (h : c ≠ 47) : partsL cur (c :: l) = partsL (cur ++ [c]) l := by
  rw [partsL.eq_def]
  simp [h]
theorem partsL_idx : ∀ (l cur : List UInt8), (Lib.indexByte l 47 = -1 → partsL cur l = [cur ++ l]) ∧ (∀ i : Nat, Lib.indexByte l 47 = i → partsL cur l = (cur ++ l.take i) :: partsL [] (l.drop (i + 1)))
  | [], cur => by
    refine ⟨fun _ => by rw [List.append_nil]; rfl, fun i h => ?_⟩
    unfold Lib.indexByte at h
    omega
  | c :: l, cur => by
    by_cases hc : c = 47
    · subst hc
      have hi : Lib.indexByte (47 :: l) 47 = 0 := by
        unfold Lib.indexByte
        rfl
      rw [hi, partsL_sl]
      refine ⟨fun h => by omega, fun i h => ?_⟩
      obtain rfl : i = 0 := by omega
      rw [List.take_zero, List.append_nil]
      rfl
    · have hb : ¬ (c == 47) = true := fun k => hc (beq_iff_eq.1 k)
      have ih := partsL_idx l (cur ++ [c])
      have hge := Lib.indexByte_ge l 47
      unfold Lib.indexByte
      rw [if_neg hb, partsL_no hc]
      by_cases hm : (Lib.indexByte l 47 == -1) = true
      · rw [if_pos hm]
        refine ⟨fun _ => ?_, fun i h => by omega⟩
        rw [ih.1 (beq_iff_eq.1 hm), List.append_assoc]
        rfl
      · rw [if_neg hm]
        have hne : Lib.indexByte l 47 ≠ -1 := fun e => hm (beq_iff_eq.2 e)
        refine ⟨fun h => by omega, fun i h => ?_⟩
        obtain ⟨j, rfl⟩ : ∃ j, i = j + 1 := ⟨i - 1, by omega⟩
        rw [ih.2 j (by omega), List.take_succ_cons, List.drop_succ_cons, List.append_assoc]
        rfl
theorem splitK_parts : ∀ (k : Nat) (l : List UInt8), Lib.count l [47] = k → Lib.splitK [47] 0 k l = partsL [] l
  | 0, l, h => by
    have hm : Lib.index l [47] = -1 := by
      have hge := Lib.index_ge l [47]
      by_cases q : Lib.index l [47] = -1
      · exact q
      · obtain ⟨i, hi⟩ : ∃ i : Nat, Lib.index l [47] = i := ⟨(Lib.index l [47]).toNat, by omega⟩
        rw [Lib.count_hit (by simp) hi] at h
        omega
    rw [Lib.index_one] at hm
    rw [(partsL_idx l []).1 hm]
    rfl
  | k + 1, l, h => by
    have hge := Lib.index_ge l [47]
    by_cases q : Lib.index l [47] = -1
    · rw [Lib.count_miss q] at h
      omega
    · obtain ⟨i, hi⟩ : ∃ i : Nat, Lib.index l [47] = i := ⟨(Lib.index l [47]).toNat, by omega⟩
      have hc := Lib.count_hit (sub := [47]) (by simp) hi
      rw [h] at hc
      have ih := splitK_parts k (l.drop (i + 1)) (by have : ([47] : List UInt8).length = 1 := rfl; rw [this] at hc; omega)
      unfold Lib.splitK
      rw [if_neg (fun e => q (beq_iff_eq.1 e)), hi, Int.toNat_natCast]
      rw [Lib.index_one] at hi
      rw [(partsL_idx l []).2 i hi, List.nil_append]
      show l.take (i + 0) :: Lib.splitK [47] 0 k (l.drop (i + 1)) = _
      rw [Nat.add_zero, ih]
theorem parts_eq (s : ByteArray) : partsB s = (partsL [] s.data.toList).map mk := by
  have h := Lib.splitB_data ⟨#[47]⟩ 0 (Lib.countB s ⟨#[47]⟩) s
  rw [show (⟨#[47]⟩ : ByteArray).data.toList = [47] from rfl, splitK_parts _ _ rfl] at h
  have h2 : (partsB s).map (·.data.toList) = partsL [] s.data.toList := h
  rw [← h2, List.map_map]
  have : ∀ x : ByteArray, (mk ∘ fun x => x.data.toList) x = x := fun x => (mk_eq rfl).symm
  rw [List.map_congr_left (fun x _ => this x), List.map_id']
theorem partsL_free : ∀ (l cur : List UInt8), 47 ∉ cur → ∀ y ∈ partsL cur l, 47 ∉ y
  | [], cur, h, y, hy => by
    rw [show partsL cur [] = [cur] from rfl, List.mem_singleton] at hy
    rw [hy]; exact h
  | c :: l, cur, h, y, hy => by
    by_cases hc : c = 47
    · subst hc
      rw [partsL_sl] at hy
      rcases List.mem_cons.1 hy with e | e
      · rw [e]; exact h
      · exact partsL_free l [] (by simp) y e
    · rw [partsL_no hc] at hy
      exact partsL_free l _ (by
        intro k
        rcases List.mem_append.1 k with k | k
        · exact h k
        · exact hc (List.mem_singleton.1 k).symm) y hy
def tot (xs : List ByteArray) : Nat := (xs.map (fun x => x.data.toList.length + 1)).sum
theorem tot_app (a b : List ByteArray) : tot (a ++ b) = tot a + tot b := by
  unfold tot
  rw [List.map_append, List.sum_append]
theorem tot_one (x : ByteArray) : tot [x] = x.data.toList.length + 1 := by simp [tot]
theorem tot_drop (a : List ByteArray) : tot a.dropLast ≤ tot a := by
  rcases List.eq_nil_or_concat a with rfl | ⟨b, x, rfl⟩
  · exact Nat.le_refl _
  · rw [List.concat_eq_append, List.dropLast_concat, tot_app]
    omega
theorem tot_parts : ∀ (l cur : List UInt8), tot ((partsL cur l).map mk) = cur.length + l.length + 1
  | [], cur => by
    rw [show partsL cur [] = [cur] from rfl, List.map_singleton, tot_one, mk_list]
    simp
  | c :: l, cur => by
    by_cases hc : c = 47
    · subst hc
      rw [partsL_sl, List.map_cons, show ∀ (x : ByteArray) (r : List ByteArray), x :: r = [x] ++ r from fun _ _ => rfl, tot_app, tot_one, mk_list, tot_parts l []]
      simp
      omega
    · rw [partsL_no hc, tot_parts l (cur ++ [c]), List.length_append, List.length_cons]
      simp
      omega
theorem stepC_tot (kept : List ByteArray) (x : ByteArray) (b : Bool) : tot (stepC kept x b) ≤ tot kept + (x.data.toList.length + 1) := by
  unfold stepC
  have h0 : ((⟨#[]⟩ : ByteArray).data.toList.length) = 0 := rfl
  have hd := tot_drop kept
  split
  · split
    · rw [tot_app, tot_one, h0]
      omega
    · omega
  · split
    · split
      · rw [tot_app, tot_one, h0]
        omega
      · omega
    · rw [tot_app, tot_one]
      omega
theorem cleanL_tot : ∀ (l kept : List ByteArray), tot (cleanL kept l) ≤ tot kept + tot l
  | [], kept => Nat.le_refl _
  | x :: r, kept => by
    have h1 := cleanL_tot r (stepC kept x r.isEmpty)
    have h2 := stepC_tot kept x r.isEmpty
    have h3 : tot (x :: r) = x.data.toList.length + 1 + tot r := by
      rw [show x :: r = [x] ++ r from rfl, tot_app, tot_one]
    show tot (cleanL (stepC kept x r.isEmpty) r) ≤ _
    omega
theorem join_tot : ∀ (xs : List ByteArray), xs ≠ [] → (Lib.join (xs.map (·.data.toList)) [47]).length + 1 = tot xs
  | [x], _ => by
    rw [tot_one]
    simp [Lib.join]
  | x :: y :: r, _ => by
    have ih := join_tot (y :: r) (by simp)
    rw [show x :: y :: r = [x] ++ (y :: r) from rfl, tot_app, tot_one, ← ih]
    unfold Lib.join
    rw [List.singleton_append, List.map_cons, List.map_cons, List.intercalate_cons_cons, List.length_append, List.length_append]
    simp
    omega
/-- A part that is no dots. -/
def noDots (y : ByteArray) : Prop := (y.toList == [46]) = false ∧ (y.toList == [46, 46]) = false ∧ 47 ∉ y.data.toList
theorem cleanL_good (s : ByteArray) : ∀ y ∈ cleanL [] (partsB s), noDots y := by
  refine cleanL_all (P := noDots) (by unfold noDots; rw [Lib.toList_data]; exact ⟨rfl, rfl, by simp⟩) (partsB s) [] (by simp) (fun y hy h1 h2 => ⟨h1, h2, ?_⟩)
  rw [parts_eq] at hy
  obtain ⟨l, hl, rfl⟩ := List.mem_map.1 hy
  exact partsL_free _ [] (by simp) l hl
theorem stepC_good {kept : List ByteArray} {x : ByteArray} {b : Bool} (h : noDots x) : stepC kept x b = kept ++ [x] := by
  unfold stepC
  rw [if_neg (by rw [h.1]; decide), if_neg (by rw [h.2.1]; decide)]
theorem cleanL_id : ∀ (l kept : List ByteArray), (∀ y ∈ l, noDots y) → cleanL kept l = kept ++ l
  | [], kept, _ => (List.append_nil _).symm
  | x :: r, kept, h => by
    show cleanL (stepC kept x r.isEmpty) r = _
    rw [stepC_good (h x List.mem_cons_self), cleanL_id r _ (fun y hy => h y (List.mem_cons_of_mem _ hy)), List.append_assoc]
    rfl
theorem partsL_app : ∀ (x cur l : List UInt8), 47 ∉ x → partsL cur (x ++ l) = partsL (cur ++ x) l
  | [], cur, l, _ => by rw [List.nil_append, List.append_nil]
  | c :: x, cur, l, h => by
    rw [List.cons_append, partsL_no (fun e => h (by rw [e]; exact List.mem_cons_self)), partsL_app x _ l (fun k => h (List.mem_cons_of_mem _ k)), List.append_assoc]
    rfl
theorem parts_join : ∀ (xs : List (List UInt8)), xs ≠ [] → (∀ y ∈ xs, 47 ∉ y) → partsL [] (Lib.join xs [47]) = xs
  | [x], _, h => by
    have := partsL_app x [] [] (h x List.mem_cons_self)
    rw [List.append_nil, List.nil_append] at this
    simp only [Lib.join, List.intercalate_singleton]
    rw [this]
    rfl
  | x :: y :: r, _, h => by
    have ih := parts_join (y :: r) (by simp) (fun z hz => h z (List.mem_cons_of_mem _ hz))
    unfold Lib.join at ih ⊢
    rw [List.intercalate_cons_cons, List.append_assoc, partsL_app x [] _ (h x List.mem_cons_self), List.nil_append]
    rw [show ([47] : List UInt8) ++ List.intercalate [47] (y :: r) = 47 :: List.intercalate [47] (y :: r) from rfl, partsL_sl, ih]
/-- What Clean leaves of a path's text behind the first slash. -/
def keptB (r : ByteArray) : List ByteArray := cleanL [] (partsB r)
theorem cleanB_list (r : ByteArray) : (cleanB r).data.toList = 47 :: Lib.join ((keptB r).map (·.data.toList)) [47] := by
  unfold cleanB keptB
  rw [ByteArray.data_append, Array.toList_append]
  rfl
theorem parts_clean (r : ByteArray) : (partsL [] (Lib.join ((keptB r).map (·.data.toList)) [47])).map mk = if keptB r = [] then [⟨#[]⟩] else keptB r := by
  have hg := cleanL_good r
  have hk : keptB r = cleanL [] (partsB r) := rfl
  rw [← hk] at hg
  generalize keptB r = K at *
  by_cases h : K = []
  · subst h
    rfl
  · rw [if_neg h, parts_join _ (fun k => h (by simpa using k)) (fun y hy => by
      obtain ⟨z, hz, rfl⟩ := List.mem_map.1 hy
      exact (hg z hz).2.2), List.map_map]
    have : ∀ x : ByteArray, (mk ∘ fun x => x.data.toList) x = x := fun x => (mk_eq rfl).symm
    rw [List.map_congr_left (fun x _ => this x), List.map_id']
theorem ext_tail (s : ByteArray) : (s.extract 1 s.size).data.toList = s.data.toList.drop 1 := by
  rw [ByteArray.data_extract, Array.toList_extract, List.extract_eq_take_drop]
  refine List.take_of_length_le ?_
  rw [List.length_drop, toList_len]
  omega
theorem empty_good : noDots ⟨#[]⟩ := by
  unfold noDots
  rw [Lib.toList_data]
  exact ⟨rfl, rfl, by simp⟩
theorem cleanF_again {s a : ByteArray} (h : cleanF s = (a, 0)) : cleanF a = (a, 0) ∧ a.size ≤ s.size + 1 ∧ (∀ y ∈ partsL [] (a.data.toList.drop 1), noDots (mk y)) ∧ s.size ≤ 8192 := by
  unfold cleanF at h
  split at h
  · cases (Prod.mk.inj h).2
  · rename_i hp
    split at h
    · cases (Prod.mk.inj h).2
    · rename_i h8
      have ha := (Prod.mk.inj h).1
      have h1 : 1 ≤ s.size := by
        have hp : Lib.hasPrefix s.data.toList [47] = true := by simpa using hp
        unfold Lib.hasPrefix at hp
        cases hl : s.data.toList with
        | nil => rw [hl] at hp; simp [List.isPrefixOf] at hp
        | cons c r =>
          have := toList_len s
          rw [hl, List.length_cons] at this
          omega
      have hRl : (s.extract 1 s.size).data.toList.length = s.size - 1 := by rw [ext_tail, List.length_drop, toList_len]
      have hal := cleanB_list (s.extract 1 s.size)
      have hpc := parts_clean (s.extract 1 s.size)
      have hgood := cleanL_good (s.extract 1 s.size)
      have htot := cleanL_tot (partsB (s.extract 1 s.size)) []
      rw [parts_eq, tot_parts, hRl] at htot
      have hk : keptB (s.extract 1 s.size) = cleanL [] (partsB (s.extract 1 s.size)) := rfl
      rw [← parts_eq, ← hk] at htot
      rw [← hk] at hgood
      rw [ha] at hal
      generalize keptB (s.extract 1 s.size) = K at *
      have has : a.size ≤ s.size := by
        rw [← toList_len, hal, List.length_cons]
        by_cases hK : K = []
        · subst hK
          show 0 + 1 ≤ _
          omega
        · rw [join_tot K hK]
          have : tot ([] : List ByteArray) = 0 := rfl
          simp at htot
          omega
      have hdr : a.data.toList.drop 1 = Lib.join (K.map (·.data.toList)) [47] := by rw [hal]; rfl
      refine ⟨?_, by omega, ?_, by omega⟩
      · unfold cleanF
        rw [if_neg (by rw [hal]; simp [Lib.hasPrefix]), if_neg (by omega)]
        refine congrArg (fun x => (x, (0 : Int))) ?_
        refine (mk_eq ?_).trans (mk_eq rfl).symm
        rw [cleanB_list, hal]
        unfold keptB
        rw [parts_eq, ext_tail, hdr, hpc]
        by_cases hK : K = []
        · subst hK
          rw [if_pos rfl, cleanL_id [⟨#[]⟩] [] (fun y hy => by rw [List.mem_singleton.1 hy]; exact empty_good)]
          rfl
        · rw [if_neg hK, cleanL_id K [] hgood]
          rfl
      · intro y hy
        rw [hdr] at hy
        have := List.mem_map_of_mem (f := mk) hy
        rw [hpc] at this
        by_cases hK : K = []
        · rw [if_pos hK, List.mem_singleton] at this
          rw [this]
          exact empty_good
        · rw [if_neg hK] at this
          exact hgood _ this
end Go.Proofs.YtoinhenekeogiaaDoor
