/- Layer 6: the law TargetCase: great letters say the same host. -/
import Derived.Test.YtoinhenekeogiaaDoorTC
import Derived.Test.YtoinhenekeogiaaDoorTD
namespace Go.Proofs.YtoinhenekeogiaaDoor
open Go.RowKit Go.ChangeShapes Go.WideShapes
set_option linter.unusedVariables false

def upB (c : UInt8) : UInt8 := if 97 ≤ c.toNat ∧ c.toNat ≤ 122 then c - 32 else c
theorem upB_nat (c : UInt8) : (upB c).toNat = if 97 ≤ c.toNat ∧ c.toNat ≤ 122 then c.toNat - 32 else c.toNat := by
  unfold upB
  split
  · rw [UInt8.toNat_sub_of_le]
    · rfl
    · show (32 : UInt8).toNat ≤ c.toNat
      have : (32 : UInt8).toNat = 32 := rfl
      omega
  · rfl
theorem lowB_nat (c : UInt8) : (lowB c).toNat = if 65 ≤ c.toNat ∧ c.toNat ≤ 90 then c.toNat + 32 else c.toNat := by
  unfold lowB
  split
  · rw [UInt8.toNat_add]
    have : (32 : UInt8).toNat = 32 := rfl
    omega
  · rfl
theorem low_up (c : UInt8) : lowB (upB c) = lowB c := by
  refine UInt8.toNat_inj.1 ?_
  rw [lowB_nat, lowB_nat, upB_nat]
  repeat' split
  all_goals omega
theorem aln_up (c : UInt8) : alnI ((upB c).toNat : Int) = alnI (c.toNat : Int) := by
  unfold alnI
  rw [upB_nat, Bool.eq_iff_iff]
  simp
  split <;> omega
theorem hex_up (c : UInt8) : hexI ((upB c).toNat : Int) = hexI (c.toNat : Int) ∨ ¬ (c.toNat ≤ 102) := by
  by_cases h : c.toNat ≤ 102
  · left
    unfold hexI
    rw [upB_nat, Bool.eq_iff_iff]
    simp
    split <;> omega
  · exact .inr h
theorem hex_up' (c : UInt8) : hexI ((upB c).toNat : Int) = hexI (c.toNat : Int) := by
  unfold hexI
  rw [upB_nat, Bool.eq_iff_iff]
  simp
  split <;> omega
theorem up_other {c : UInt8} (h : alnI (c.toNat : Int) = false) : upB c = c := by
  unfold alnI at h
  simp at h
  unfold upB
  rw [if_neg (by omega)]
theorem up_eq {c d : UInt8} (hd : alnI (d.toNat : Int) = false) : upB c = d ↔ c = d := by
  constructor
  · intro h
    have : alnI (c.toNat : Int) = false := by rw [← aln_up, h, hd]
    rw [← up_other this]
    exact h
  · rintro rfl
    exact up_other hd
theorem made_up (M : List UInt8) : ∀ (n : Nat) (l : List UInt8), l.length ≤ n → madeL M (l.map upB) = madeL M l
  | _, [], _ => rfl
  | 0, c :: r, h => by simp at h
  | n + 1, c :: r, hn => by
    rw [List.length_cons] at hn
    rw [List.map_cons]
    cases ha : alnI (c.toNat : Int)
    · rw [up_other ha]
      by_cases h37 : c = 37
      · subst h37
        match r, hn with
        | [], _ => rfl
        | [a], _ => rw [List.map_cons, List.map_nil, made_pct1 (by simp), made_pct1 (by simp)]
        | a :: b :: q, hn =>
          rw [List.map_cons, List.map_cons, made_pct, made_pct, hex_up', hex_up', made_up M n q (by simp at hn; omega)]
      · rw [made_oth ha h37, made_oth ha h37, made_up M n r (by omega)]
    · rw [made_aln ha, made_aln (by rw [aln_up]; exact ha), made_up M n r (by omega)]
theorem numGo_up : ∀ (l : List UInt8) (n : Nat) (b : Bool), numGo n b (l.map upB) = numGo n b l
  | [], _, _ => rfl
  | c :: r, n, b => by
    rw [List.map_cons]
    by_cases hd : 48 ≤ c.toNat ∧ c.toNat ≤ 57
    · have hu : upB c = c := by unfold upB; rw [if_neg (by omega)]
      rw [hu]
      cases b
      · rw [num_dig0 hd, num_dig0 hd, numGo_up r]
      · rw [num_dig1 hd, num_dig1 hd, numGo_up r]
    · have hd2 : ¬ (48 ≤ (upB c).toNat ∧ (upB c).toNat ≤ 57) := by
        rw [upB_nat]
        split <;> omega
      rw [num_no hd, num_no hd2]
theorem numF_up (l : List UInt8) : numF (l.map upB) = numF l := by
  unfold numF
  cases l with
  | nil => rfl
  | cons c r => rw [if_neg (by simp), if_neg (by simp), numGo_up]
theorem badR_up (c : UInt8) : badR (upB c).toNat = badR c.toNat := by
  have h := hex_up' c
  unfold badR
  rw [h, upB_nat]
  split
  · rw [decide_eq_false (show ¬ 127 < c.toNat - 32 by omega), decide_eq_false (show ¬ 127 < c.toNat by omega), decide_eq_true (show c.toNat - 32 ≠ 58 by omega), decide_eq_true (show c.toNat ≠ 58 by omega), decide_eq_true (show c.toNat - 32 ≠ 46 by omega), decide_eq_true (show c.toNat ≠ 46 by omega)]
  · rfl
theorem idx_up (l : List UInt8) : decide (Lib.idxFunc badR true ⟨(l.map upB).toArray⟩ < 0) = decide (Lib.idxFunc badR true ⟨l.toArray⟩ < 0) := by
  rw [decide_eq_decide, idx_iff, idx_iff]
  constructor
  · intro h c hc
    rw [← badR_up]
    exact h _ (List.mem_map_of_mem hc)
  · intro h c hc
    obtain ⟨d, hd, rfl⟩ := List.mem_map.1 hc
    rw [badR_up]
    exact h d hd
theorem prefix_up (l : List UInt8) (d : UInt8) (hd : alnI (d.toNat : Int) = false) : Lib.hasPrefix (l.map upB) [d] = Lib.hasPrefix l [d] := by
  unfold Lib.hasPrefix
  cases l with
  | nil => rfl
  | cons c r =>
    simp only [List.map_cons, List.isPrefixOf, Bool.and_true]
    rw [Bool.eq_iff_iff, beq_iff_eq, beq_iff_eq, eq_comm, up_eq hd, eq_comm]
theorem suffix_up (l : List UInt8) (d : UInt8) (hd : alnI (d.toNat : Int) = false) : Lib.hasSuffix (l.map upB) [d] = Lib.hasSuffix l [d] := by
  unfold Lib.hasSuffix List.isSuffixOf
  have h := prefix_up l.reverse d hd
  unfold Lib.hasPrefix at h
  rw [← List.map_reverse]
  exact h
theorem hostL_up (l : List UInt8) : hostL (l.map upB) = hostL l := by
  have h91 : alnI ((91 : UInt8).toNat : Int) = false := by decide
  have h93 : alnI ((93 : UInt8).toNat : Int) = false := by decide
  unfold hostL
  have e1 : Lib.trimPrefix (l.map upB) [91] = (Lib.trimPrefix l [91]).map upB := by
    unfold Lib.trimPrefix
    rw [prefix_up l 91 h91]
    split
    · rw [List.map_drop]
    · rfl
  have e2 : ∀ l : List UInt8, Lib.trimSuffix (l.map upB) [93] = (Lib.trimSuffix l [93]).map upB := by
    intro l
    unfold Lib.trimSuffix
    rw [suffix_up l 93 h93]
    split
    · rw [List.map_take, List.length_map]
    · rfl
  have e3 : ∀ l : List UInt8, (l.map upB).isEmpty = l.isEmpty := by
    intro l
    cases l <;> rfl
  rw [prefix_up l 91 h91, e1, e2, suffix_up _ 93 h93, idx_up, e3, e3, List.length_map, made_up hostMore _ l (Nat.le_refl _)]
/-- A text in great letters. -/
def great (s : ByteArray) : ByteArray := ⟨(s.data.toList.map upB).toArray⟩
theorem great_list (s : ByteArray) : (great s).data.toList = s.data.toList.map upB := rfl
theorem ba_ext {a b : ByteArray} (h : a.data.toList = b.data.toList) : a = b := by
  cases a with
  | mk d =>
    cases b with
    | mk e =>
      have : d = e := Array.ext' h
      rw [this]
theorem great_size (s : ByteArray) : (great s).size = s.size := by
  rw [← toList_len, great_list, List.length_map, toList_len]
theorem great_ext (s : ByteArray) (a b : Nat) : (great s).extract a b = great (s.extract a b) := by
  refine ba_ext ?_
  rw [ext_data, great_list, great_list, ext_data, List.map_take, List.map_drop]
theorem low_great (s : ByteArray) : low (great s) = low s := by
  refine ba_ext ?_
  show (((great s).data.toList.map lowB).toArray).toList = ((s.data.toList.map lowB).toArray).toList
  rw [great_list, List.map_map]
  show List.map (lowB ∘ upB) s.data.toList = s.data.toList.map lowB
  refine List.map_congr_left (fun c _ => ?_)
  exact low_up c
theorem last_up (s : ByteArray) (d : UInt8) (hd : alnI (d.toNat : Int) = false) : ∀ k, k ≤ s.size → Lib.lastIdx (great s) (d.toNat : Int) k = Lib.lastIdx s (d.toNat : Int) k
  | 0, _ => rfl
  | k + 1, h => by
    have ih := last_up s d hd k (by omega)
    have e1 : s.data[k]! = s[k]'h := by
      rw [getElem!_pos s.data k h]
      rfl
    have e2 : (great s).data[k]! = upB (s[k]'h) := by
      have hl : k < (great s).data.size := by
        have := great_size s
        show k < (great s).size
        omega
      have := toList_get (great s) k (by rw [great_size]; exact h)
      rw [great_list, List.getElem?_map, toList_get s k h] at this
      rw [getElem!_pos (great s).data k hl]
      injection this with this
      rw [this]
      rfl
    unfold Lib.lastIdx
    rw [e1, e2, ih]
    have : ((upB (s[k]'h)).toNat : Int) = (d.toNat : Int) ↔ ((s[k]'h).toNat : Int) = (d.toNat : Int) := by
      rw [Int.natCast_inj, Int.natCast_inj, UInt8.toNat_inj, UInt8.toNat_inj]
      exact up_eq hd
    by_cases q : ((s[k]'h).toNat : Int) = (d.toNat : Int)
    · rw [if_pos q, if_pos (this.2 q)]
    · rw [if_neg q, if_neg (fun k => q (this.1 k))]
theorem colon_up (s : ByteArray) : colonI (great s) = colonI s := by
  have h1 : Lib.lastIndexByte (great s) 58 = Lib.lastIndexByte s 58 := by
    unfold Lib.lastIndexByte
    rw [great_size]
    exact last_up s 58 (by decide) s.size (Nat.le_refl _)
  have h2 : Lib.lastIndexByte (great s) 93 = Lib.lastIndexByte s 93 := by
    unfold Lib.lastIndexByte
    rw [great_size]
    exact last_up s 93 (by decide) s.size (Nat.le_refl _)
  unfold colonI
  rw [h1, h2]
theorem hostF_great (s : ByteArray) : hostF (great s) = hostF s := by
  have hn : nameB (great s) = great (nameB s) := by
    unfold nameB
    rw [colon_up]
    split
    · rw [great_ext]
    · rfl
  have hd : digB (great s) = great (digB s) := by
    unfold digB
    rw [colon_up]
    split
    · rw [great_size, great_ext]
    · rfl
  unfold hostF
  rw [hn, hd]
  have he : (great (digB s)).toList.isEmpty = (digB s).toList.isEmpty := by
    rw [Lib.toList_data, Lib.toList_data, great_list]
    cases (digB s).data.toList <;> rfl
  unfold hostG
  rw [great_list, hostL_up, he, great_list, numF_up, low_great, great_size]
theorem up_take {s : ByteArray} {k : Nat} {c : UInt8} (h : s.data.toList[k]? = some c) : (s.data.toList.take (k + 1)).map upB = (s.data.toList.take k).map upB ++ [upB c] := by
  rw [List.take_add_one, h, List.map_append]
  rfl
set_option maxHeartbeats 4000000 in
set_option maxRecDepth 100000 in
theorem case_any (s : ByteArray) (w : World) (hs : s.size ≤ 1048576) (hE : Hid (Env w)) :
    Calls Tryd.prog 5 #[.string s] w fun e w' => e = .returned (.bool true) ∧ Hid (Chg [] w w') := by
  have hz3 : (s.size : Int) ≤ 1048576 := by omega
  go_enter Tryd.func5, Tryd.ntmps5
  go_wp2
  go_loopw [3, 4] (fun gv i wr => ∃ (k : Nat) (G : ByteArray), k ≤ s.size ∧ gv = .string G ∧ i = .int .i64 k ∧ Hid (G.data.toList = (s.data.toList.take k).map upB) ∧ Hid (Chg [] w wr)) (fun _ i _ => s.size - (intOf i).toNat)
  case atStart => exact ⟨0, ⟨#[]⟩, by omega, rfl, rfl, Lib.hid rfl, Chg.refl _ _⟩
  case round =>
    obtain ⟨k, G, hk, rfl, rfl, HG, HC⟩ := hrel
    have hGs : G.size ≤ 1048576 := by
      rw [← toList_len, HG.out, List.length_map, List.length_take]
      omega
    by_cases hlt : k < s.size
    · have hlt2 : (k : Int) < (s.size : Int) := by omega
      have hcl := toList_get s k hlt
      obtain ⟨c, hc⟩ : ∃ c, s[k]'hlt = c := ⟨_, rfl⟩
      rw [hc] at hcl
      have HT := Lib.hid (up_take hcl)
      have hu := upB_nat c
      have hb : (c.toNat : Int) ≤ 255 := by have := c.toNat_lt; omega
      clear hcl
      by_cases a1 : (97 : Int) ≤ (c.toNat : Int)
      · by_cases a2 : (c.toNat : Int) ≤ 122
        · have HU := Lib.hid (show ((upB c).toNat : Int) = (c.toNat : Int) - 97 + 65 by rw [hu, if_pos (by omega)]; omega)
          clear hu
          (have hconv := run_convert_bytes_back (P := Tryd.prog) (wr.alloc (.cells #[.int .u8 ((c.toNat : Int) - 97 + 65)] 5)) 34 9 5 ⟨wr.heap.size, 0, none⟩ 1 [upB c] Tryd.underlying34 Tryd.underlying5 Tryd.underlying9 (fun j hj => by
             have hj0 : j = 0 := by (simp at hj; omega);
             subst hj0;
             rw [Addr.add_lit];
             have hcell := (Blk.new wr [.int .u8 ((c.toNat : Int) - 97 + 65)] 5).cell 0 (.int .u8 ((c.toNat : Int) - 97 + 65)) rfl;
             rw [show (([upB c] : List UInt8)[0]'hj).toNat = (upB c).toNat from rfl, HU.out];
             exact hcell);
           rw [show ([upB c] : List UInt8).length = 1 from rfl] at hconv;
           have HC2 := Lib.hid (HC.out.alloc (.cells #[.int .u8 ((c.toNat : Int) - 97 + 65)] 5));
           have HG2 : Hid ((G ++ (⟨[upB c].toArray⟩ : ByteArray)).data.toList = (s.data.toList.take (k + 1)).map upB) := Lib.hid (by rw [ByteArray.data_append, Array.toList_append, HG.out, HT.out]);
           have hcat : ¬ (9223372036854775807 < G.size + (⟨[upB c].toArray⟩ : ByteArray).size) := by (show ¬ (9223372036854775807 < G.size + 1); omega);
           generalize (⟨[upB c].toArray⟩ : ByteArray) = cb at *;
           clear HU HT HG;
           go_wp2;
           go_roundw;
           case rel => exact ⟨k + 1, _, by omega, rfl, by go_num, HG2, HC2⟩;
           case measure => simp [intOf]; omega)
        · have HU := Lib.hid (show ((upB c).toNat : Int) = (c.toNat : Int) by rw [hu, if_neg (by omega)])
          clear hu
          (have hconv := run_convert_bytes_back (P := Tryd.prog) (wr.alloc (.cells #[.int .u8 ((c.toNat : Int))] 5)) 34 9 5 ⟨wr.heap.size, 0, none⟩ 1 [upB c] Tryd.underlying34 Tryd.underlying5 Tryd.underlying9 (fun j hj => by
             have hj0 : j = 0 := by (simp at hj; omega);
             subst hj0;
             rw [Addr.add_lit];
             have hcell := (Blk.new wr [.int .u8 ((c.toNat : Int))] 5).cell 0 (.int .u8 ((c.toNat : Int))) rfl;
             rw [show (([upB c] : List UInt8)[0]'hj).toNat = (upB c).toNat from rfl, HU.out];
             exact hcell);
           rw [show ([upB c] : List UInt8).length = 1 from rfl] at hconv;
           have HC2 := Lib.hid (HC.out.alloc (.cells #[.int .u8 ((c.toNat : Int))] 5));
           have HG2 : Hid ((G ++ (⟨[upB c].toArray⟩ : ByteArray)).data.toList = (s.data.toList.take (k + 1)).map upB) := Lib.hid (by rw [ByteArray.data_append, Array.toList_append, HG.out, HT.out]);
           have hcat : ¬ (9223372036854775807 < G.size + (⟨[upB c].toArray⟩ : ByteArray).size) := by (show ¬ (9223372036854775807 < G.size + 1); omega);
           generalize (⟨[upB c].toArray⟩ : ByteArray) = cb at *;
           clear HU HT HG;
           go_wp2;
           go_roundw;
           case rel => exact ⟨k + 1, _, by omega, rfl, by go_num, HG2, HC2⟩;
           case measure => simp [intOf]; omega)
      · have HU := Lib.hid (show ((upB c).toNat : Int) = (c.toNat : Int) by rw [hu, if_neg (by omega)])
        clear hu
        (have hconv := run_convert_bytes_back (P := Tryd.prog) (wr.alloc (.cells #[.int .u8 ((c.toNat : Int))] 5)) 34 9 5 ⟨wr.heap.size, 0, none⟩ 1 [upB c] Tryd.underlying34 Tryd.underlying5 Tryd.underlying9 (fun j hj => by
           have hj0 : j = 0 := by (simp at hj; omega);
           subst hj0;
           rw [Addr.add_lit];
           have hcell := (Blk.new wr [.int .u8 ((c.toNat : Int))] 5).cell 0 (.int .u8 ((c.toNat : Int))) rfl;
           rw [show (([upB c] : List UInt8)[0]'hj).toNat = (upB c).toNat from rfl, HU.out];
           exact hcell);
         rw [show ([upB c] : List UInt8).length = 1 from rfl] at hconv;
         have HC2 := Lib.hid (HC.out.alloc (.cells #[.int .u8 ((c.toNat : Int))] 5));
         have HG2 : Hid ((G ++ (⟨[upB c].toArray⟩ : ByteArray)).data.toList = (s.data.toList.take (k + 1)).map upB) := Lib.hid (by rw [ByteArray.data_append, Array.toList_append, HG.out, HT.out]);
         have hcat : ¬ (9223372036854775807 < G.size + (⟨[upB c].toArray⟩ : ByteArray).size) := by (show ¬ (9223372036854775807 < G.size + 1); omega);
         generalize (⟨[upB c].toArray⟩ : ByteArray) = cb at *;
         clear HU HT HG;
         go_wp2;
         go_roundw;
         case rel => exact ⟨k + 1, _, by omega, rfl, by go_num, HG2, HC2⟩;
         case measure => simp [intOf]; omega)
    · obtain rfl : k = s.size := by omega
      have hG : G = great s := by
        refine ba_ext ?_
        rw [HG.out, great_list, ← toList_len, List.take_length]
      subst hG
      obtain ⟨h, p, e, hz⟩ : ∃ h p e, hostF s = (h, p, e) := ⟨_, _, _, rfl⟩
      have HZ := Lib.hid hz
      have HZ2 := Lib.hid ((hostF_great s).trans hz)
      clear hz HG
      generalize great s = G at *
      go_wp2_with fail
      refine (Host_any s _ hs (Lib.hid (hE.out.chg HC.out)) _ _ _ HZ.out).mono ?_
      rintro o w2 ⟨rfl, H2⟩
      have HC2 := Lib.hid (HC.out.trans H2.out (by simp))
      go_wp2_with fail
      refine (Host_any G _ hGs (Lib.hid (hE.out.chg HC2.out)) _ _ _ HZ2.out).mono ?_
      rintro o w3 ⟨rfl, H3⟩
      have HC3 := Lib.hid (HC2.out.trans H3.out (by simp))
      go_wp2_with fail
      refine (speaks_any _ (Lib.hid (hE.out.chg HC3.out))).mono ?_
      rintro o w4 ⟨rfl, H4⟩
      go_wp2
      go_ret
      exact ⟨rfl, HC3.out.trans H4.out (by simp)⟩
end Go.Proofs.YtoinhenekeogiaaDoor
