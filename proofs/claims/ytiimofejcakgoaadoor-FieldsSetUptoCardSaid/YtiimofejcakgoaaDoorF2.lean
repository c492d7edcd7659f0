/- Layer 7 (fields): Items, both sides. -/
import Derived.Test.YtiimofejcakgoaaDoorF1
namespace Go.Proofs.YtiimofejcakgoaaDoor
open Go.RowKit Go.ChangeShapes Go.WideShapes
set_option linter.unusedVariables false

theorem lower_low (s : ByteArray) (w : World) (hs : s.size ≤ 1048576) : Calls Tryd.prog 36 #[.string s] w fun e w' => e = .returned (.string (low s)) ∧ Hid (Chg [] w w') := lower_any s w hs
theorem rlower_low (s : ByteArray) (w : World) (hs : s.size ≤ 1048576) : Calls Tryd.prog 38 #[.string s] w fun e w' => e = .returned (.string (low s)) ∧ Hid (Chg [] w w') := rlower_any s w hs
theorem trimS_len (l cs : List UInt8) : (Lib.trimS l cs).length ≤ l.length := by
  unfold Lib.trimS Lib.trimLeftS
  refine Nat.le_trans (List.dropWhile_suffix _).length_le ?_
  unfold Lib.trimRightS
  rw [List.length_reverse]
  have := (List.dropWhile_suffix (cs.contains ·) (l := l.reverse)).length_le
  rw [List.length_reverse] at this
  exact this
theorem size_list (l : List UInt8) : (⟨l.toArray⟩ : ByteArray).size = l.length := by rw [← toList_len]
theorem emit_size (p : List UInt8) (x : ByteArray) (h : x ∈ emit p) : x.size ≤ p.length := by
  unfold emit at h
  split at h
  · cases h
  · rw [List.mem_singleton] at h
    rw [h, size_list]
    exact trimS_len _ _
theorem goL_size : ∀ (l part : List UInt8) (q sk : Bool) (x : ByteArray), x ∈ goL part q sk l → x.size ≤ part.length + l.length
  | [], part, q, sk, x, h => by
    unfold goL at h
    have := emit_size _ _ h
    simp
    omega
  | c :: l, part, q, sk, x, h => by
    unfold goL at h
    rw [List.length_cons]
    split at h
    · rcases List.mem_append.1 h with h | h
      · have := emit_size _ _ h
        omega
      · have := goL_size l [] q sk x h
        simp at this
        omega
    · have := goL_size l _ _ _ x h
      rw [List.length_append] at this
      simp at this
      omega
theorem listB_size (v x : ByteArray) (h : x ∈ listB v.data.toList) : x.size ≤ v.size := by
  have := goL_size _ _ _ _ _ h
  rw [toList_len] at this
  simpa using this
theorem listB_len (v : ByteArray) : (listB v.data.toList).length ≤ v.size + 1 := by
  have := goL_len v.data.toList [] false false
  rw [toList_len] at this
  exact this
def itL (vs : List ByteArray) : List ByteArray := vs.flatMap (fun v => (listB v.data.toList).map low)
def itemsB (fs : List Fd) (name : ByteArray) : List ByteArray := itL (allB fs name)
def wtS (vs : List ByteArray) : Nat := (vs.map (fun v => v.size + 1)).sum
theorem itL_succ {vs : List ByteArray} {k : Nat} {v : ByteArray} (h : vs[k]? = some v) : itL (vs.take (k + 1)) = itL (vs.take k) ++ (listB v.data.toList).map low := by
  unfold itL
  rw [List.take_add_one, h, List.flatMap_append]
  simp
theorem itL_len (vs : List ByteArray) : (itL vs).length ≤ wtS vs := by
  unfold itL wtS
  induction vs with
  | nil => simp
  | cons v vs ih =>
    rw [List.flatMap_cons, List.length_append, List.length_map, List.map_cons, List.sum_cons]
    have := listB_len v
    omega
theorem wtS_take (vs : List ByteArray) : ∀ k, wtS (vs.take k) ≤ wtS vs := by
  unfold wtS
  induction vs with
  | nil => intro k; simp
  | cons v vs ih =>
    intro k
    cases k with
    | zero => simp
    | succ k =>
      rw [List.take_succ_cons, List.map_cons, List.map_cons, List.sum_cons, List.sum_cons]
      have := ih k
      omega
theorem wtS_all (fs : List Fd) (name : ByteArray) : wtS (allB fs name) ≤ lensF fs + fs.length := by
  unfold wtS allB lensF
  induction fs with
  | nil => simp
  | cons f fs ih =>
    rw [List.filter_cons]
    split
    · simp only [List.map_cons, List.sum_cons, List.length_cons]
      omega
    · simp only [List.map_cons, List.sum_cons, List.length_cons]
      omega
theorem allB_size (fs : List Fd) (name : ByteArray) (hb : BdF fs) (x : ByteArray) (h : x ∈ allB fs name) : x.size ≤ 1048576 := by
  unfold allB at h
  obtain ⟨f, hf, rfl⟩ := List.mem_map.1 h
  exact (hb.2.2 f (List.mem_filter.1 hf).1).2
theorem it_bound (fs : List Fd) (name : ByteArray) (hb : BdF fs) (k j : Nat) (v : ByteArray) (hv : (allB fs name)[k]? = some v) : (itL ((allB fs name).take k) ++ ((listB v.data.toList).take j).map low).length ≤ 4000000 := by
  have h1 := itL_len ((allB fs name).take (k + 1))
  have h2 := wtS_take (allB fs name) (k + 1)
  have h3 := wtS_all fs name
  have h4 := hb.1
  have h5 := hb.2.1
  rw [itL_succ hv, List.length_append] at h1
  rw [List.length_append, List.length_map, List.length_take]
  rw [List.length_map] at h1
  omega
set_option maxHeartbeats 8000000 in
set_option maxRecDepth 100000 in
theorem items_any (v : Value) (fs : List Fd) (name : ByteArray) (w : World) (hf : Hid (Flds w v fs)) (hb : Hid (BdF fs)) (hn : name.size ≤ 1048576) :
    Calls Tryd.prog 15 #[v, .string name] w fun e w' => ∃ r, e = .returned r ∧ Hid (OwnS w.heap.size w' r (itemsB fs name)) ∧ Hid (Chg [] w w') := by
  obtain ⟨i0, hi, hz0, hz1, hz2⟩ := info_parts info9
  have HI := Lib.hid (And.intro hi (And.intro hz0 (And.intro hz1 hz2)))
  clear hi hz0 hz1 hz2
  go_enter Tryd.func15, Tryd.ntmps15
  go_wp2_with fail
  refine (all_any v fs name w hf hb hn).mono ?_
  rintro e w1 ⟨r, rfl, HR, HC1⟩
  have HSZ1 := Lib.hid HC1.out.size
  have HVB := Lib.hid (allB_size fs name hb.out)
  have HBND := Lib.hid (it_bound fs name hb.out)
  have HEND : Hid (itL (allB fs name) = itemsB fs name) := Lib.hid rfl
  have hvl : (allB fs name).length ≤ 2000000 := by
    have h1 := allB_len fs name fs.length
    rw [List.take_length] at h1
    exact Nat.le_trans h1 hb.out.1
  generalize allB fs name = vs at HR HVB HBND HEND hvl
  obtain ⟨A, cp, rfl⟩ := HR.out.form
  go_wp2_with fail
  go_loopw [5, 14] (fun o i wr => ∃ k : Nat, i = .int .i64 k ∧ k ≤ vs.length ∧ Hid (OwnS w1.heap.size wr o (itL (vs.take k))) ∧ Hid (Chg [] w1 wr)) (fun _ i _ => vs.length - (intOf i).toNat)
  case atStart => exact ⟨0, rfl, by omega, Lib.hid (OwnS.nil _ _), Chg.refl _ _⟩
  case round =>
    obtain ⟨k, rfl, hk, HO, HC⟩ := hrel
    have HR2 := Lib.hid (HR.out.chg HC.out)
    by_cases hlt : k < vs.length
    · obtain ⟨x, hx⟩ : ∃ x, vs[k]? = some x := ⟨_, List.getElem?_eq_getElem hlt⟩
      obtain ⟨g, cp2, he, hcp, hg, hcells⟩ := HR2.out.read (by omega)
      obtain ⟨rfl, rfl⟩ : A = some ⟨g, 0, none⟩ ∧ cp = cp2 := by injection he with h1 h2 h3; exact ⟨h1, h3⟩
      have c1 := hcells k x hx
      have hxs := HVB.out x (List.mem_of_getElem? hx)
      have HBJ := Lib.hid (fun j => HBND.out k j x hx)
      have HSU := Lib.hid (itL_succ hx)
      clear hcells he
      go_wp2_with fail
      refine (list_any x _ hxs).mono ?_
      rintro e w2 ⟨lv, rfl, HL, HC2⟩
      have HXB := Lib.hid (fun y h => listB_size x y h)
      have hll : (listB x.data.toList).length ≤ 1048577 := by have := listB_len x; omega
      generalize hlst : listB x.data.toList = lst at HL HBJ HSU HXB hll
      have HO2 := Lib.hid (HO.out.chg HC2.out)
      have HC3 := Lib.hid (HC.out.trans HC2.out (by simp))
      have HNE : Hid (∀ q, u5.ownBlock = some q → lv.ownBlock ≠ some q) := Lib.hid (fun q hq hl => by have h1 := (World.ownsRow.lt HO.out q hq).2; have h2 := (World.ownsRow.lt HL.out q hl).1; omega)
      have HBW := Lib.hid (show w1.heap.size ≤ w2.heap.size from HC3.out.size)
      obtain ⟨A2, cp3, rfl⟩ := HL.out.form
      clear hx hlst
      have HKE : Hid (itL (vs.take k) = itL (vs.take k)) := Lib.hid rfl
      go_wp2_with fail
      go_loopw [5, 21] (fun o i wx => ∃ j : Nat, i = .int .i64 j ∧ j ≤ lst.length ∧ Hid (OwnS w1.heap.size wx o (itL (vs.take k) ++ (lst.take j).map low)) ∧ Hid (OwnS wr.heap.size wx (.slice A2 lst.length cp3) lst) ∧ Hid (∀ q, o.ownBlock = some q → (Value.slice A2 lst.length cp3).ownBlock ≠ some q) ∧ Hid (Chg [] w1 wx)) (fun _ i _ => lst.length - (intOf i).toNat)
      case atStart => exact ⟨0, rfl, by omega, Lib.hid (by simpa using HO2.out), HL, HNE, HC3⟩
      case round =>
        obtain ⟨j, rfl, hj, HO4, HL4, HN4, HC4⟩ := hrel
        by_cases hjl : j < lst.length
        · obtain ⟨y, hy⟩ : ∃ y, lst[j]? = some y := ⟨_, List.getElem?_eq_getElem hjl⟩
          obtain ⟨g2, cp4, he, hcp2, hg2, hcells⟩ := HL4.out.read (by omega)
          obtain ⟨rfl, rfl⟩ : A2 = some ⟨g2, 0, none⟩ ∧ cp3 = cp4 := by injection he with h1 h2 h3; exact ⟨h1, h3⟩
          have c2 := hcells j y hy
          have hys : y.size ≤ 1048576 := Nat.le_trans (HXB.out y (List.mem_of_getElem? hy)) hxs
          have HTK := Lib.hid (show (lst.take (j + 1)).map low = (lst.take j).map low ++ [low y] by rw [List.take_add_one, hy, List.map_append]; rfl)
          clear hcells he
          go_wp2_with fail
          refine (lower_low y _ hys).mono ?_
          rintro e w3 ⟨rfl, HC5⟩
          have HO5 := Lib.hid (HO4.out.chg HC5.out)
          have HL5 := Lib.hid (HL4.out.chg HC5.out)
          have HC6 := Lib.hid (HC4.out.trans HC5.out (by simp))
          have hbj := HBJ.out j
          have HBE := Lib.hid (show itL (vs.take k) ++ (lst.take (j + 1)).map low = (itL (vs.take k) ++ (lst.take j).map low) ++ [low y] by rw [HTK.out, List.append_assoc])
          clear hy HO4 HL4 HC4 HC5
          generalize itL (vs.take k) ++ (lst.take j).map low = dn at HO5 hbj HBE
          generalize low y = ly at HBE ⊢
          obtain ⟨A6, cp6, rfl⟩ := HO5.out.form
          have hsz6 := HC6.out.size
          have HGB := Lib.hid ((World.ownsRow.lt HL5.out g2 rfl).2)
          go_wp2_with (at_builtin; refine wpList_append_own_at _ rfl _ _ 29 rfl w1.heap.size 9 i0 (.string ⟨#[]⟩) 1 16 Tryd.underlying29 HI.out.1 HI.out.2.1 HI.out.2.2.1 HI.out.2.2.2 rfl (by decide) (.slice A6 dn.length cp6) dn.length (dn.map Value.string) rfl (World.ownsRow.alloc HO5.out _) ⟨w3.heap.size, 0, none⟩ 1 1 [.string ly] rfl rfl (cell_one_new _ _ _) (by simp [Value.oneCell']) (by unfold maxLen; omega) (by omega) (by simp; omega) ?_; intro v7 w7 hown hgrow _ hat)
          have HC7 := Lib.hid (Chg.grownOwn (HC6.out.alloc _) (World.ownsRow.alloc HO5.out _) (Nat.le_refl _) hgrow)
          have HO7 := Lib.hid (OwnS.push hown)
          have HL7 := Lib.hid (World.ownsRow.kept (World.ownsRow.alloc HL5.out (.cells #[.string ly] 9)) hgrow (.inr (fun e => HN4.out _ e.symm rfl)))
          have HN7 : Hid (∀ q, v7.ownBlock = some q → (Value.slice (some ⟨g2, 0, none⟩) lst.length cp3).ownBlock ≠ some q) := Lib.hid (fun q hq => by
            rcases hat with hat | hat
            · exact HN4.out q (by rw [← hat]; exact hq)
            · rw [hq] at hat
              injection hat with hat
              intro e
              injection e with e
              have := HGB.out
              simp at hat e
              omega)
          clear hown hgrow hat
          go_roundw
          case rel => exact ⟨j + 1, by go_num, by omega, Lib.hid (by rw [HBE.out]; exact HO7.out), HL7, HN7, HC7⟩
          case measure => simp [intOf]; omega
        · obtain rfl : j = lst.length := by omega
          rw [List.take_length, ← HSU.out] at HO4
          go_wp2
          go_roundw
          case rel => exact ⟨k + 1, by go_num, by omega, HO4, HC4⟩
          case measure => simp [intOf]; omega
    · obtain rfl : k = vs.length := by omega
      rw [List.take_length, HEND.out] at HO
      go_wp2
      go_ret
      exact ⟨_, rfl, Lib.hid (HO.out.lower HSZ1.out), Lib.hid (HC1.out.trans HC.out (by simp))⟩
set_option maxHeartbeats 8000000 in
set_option maxRecDepth 100000 in
theorem ritems_any (v : Value) (fs : List Fd) (name : ByteArray) (w : World) (hf : Hid (Flds w v fs)) (hb : Hid (BdF fs)) (hn : name.size ≤ 1048576) :
    Calls Tryd.prog 16 #[v, .string name] w fun e w' => ∃ r, e = .returned r ∧ Hid (OwnS w.heap.size w' r (itemsB fs name)) ∧ Hid (Chg [] w w') := by
  obtain ⟨i0, hi, hz0, hz1, hz2⟩ := info_parts info9
  have HI := Lib.hid (And.intro hi (And.intro hz0 (And.intro hz1 hz2)))
  clear hi hz0 hz1 hz2
  go_enter Tryd.func16, Tryd.ntmps16
  go_wp2_with fail
  refine (rall_any v fs name w hf hb hn).mono ?_
  rintro e w1 ⟨r, rfl, HR, HC1⟩
  have HSZ1 := Lib.hid HC1.out.size
  have HVB := Lib.hid (allB_size fs name hb.out)
  have HBND := Lib.hid (it_bound fs name hb.out)
  have HEND : Hid (itL (allB fs name) = itemsB fs name) := Lib.hid rfl
  have hvl : (allB fs name).length ≤ 2000000 := by
    have h1 := allB_len fs name fs.length
    rw [List.take_length] at h1
    exact Nat.le_trans h1 hb.out.1
  generalize allB fs name = vs at HR HVB HBND HEND hvl
  obtain ⟨A, cp, rfl⟩ := HR.out.form
  go_wp2_with fail
  go_loopw [5, 14] (fun o i wr => ∃ k : Nat, i = .int .i64 k ∧ k ≤ vs.length ∧ Hid (OwnS w1.heap.size wr o (itL (vs.take k))) ∧ Hid (Chg [] w1 wr)) (fun _ i _ => vs.length - (intOf i).toNat)
  case atStart => exact ⟨0, rfl, by omega, Lib.hid (OwnS.nil _ _), Chg.refl _ _⟩
  case round =>
    obtain ⟨k, rfl, hk, HO, HC⟩ := hrel
    have HR2 := Lib.hid (HR.out.chg HC.out)
    by_cases hlt : k < vs.length
    · obtain ⟨x, hx⟩ : ∃ x, vs[k]? = some x := ⟨_, List.getElem?_eq_getElem hlt⟩
      obtain ⟨g, cp2, he, hcp, hg, hcells⟩ := HR2.out.read (by omega)
      obtain ⟨rfl, rfl⟩ : A = some ⟨g, 0, none⟩ ∧ cp = cp2 := by injection he with h1 h2 h3; exact ⟨h1, h3⟩
      have c1 := hcells k x hx
      have hxs := HVB.out x (List.mem_of_getElem? hx)
      have HBJ := Lib.hid (fun j => HBND.out k j x hx)
      have HSU := Lib.hid (itL_succ hx)
      clear hcells he
      go_wp2_with fail
      refine (rlist_any x _ hxs).mono ?_
      rintro e w2 ⟨lv, rfl, HL, HC2⟩
      have HXB := Lib.hid (fun y h => listB_size x y h)
      have hll : (listB x.data.toList).length ≤ 1048577 := by have := listB_len x; omega
      generalize hlst : listB x.data.toList = lst at HL HBJ HSU HXB hll
      have HO2 := Lib.hid (HO.out.chg HC2.out)
      have HC3 := Lib.hid (HC.out.trans HC2.out (by simp))
      have HNE : Hid (∀ q, u5.ownBlock = some q → lv.ownBlock ≠ some q) := Lib.hid (fun q hq hl => by have h1 := (World.ownsRow.lt HO.out q hq).2; have h2 := (World.ownsRow.lt HL.out q hl).1; omega)
      have HBW := Lib.hid (show w1.heap.size ≤ w2.heap.size from HC3.out.size)
      obtain ⟨A2, cp3, rfl⟩ := HL.out.form
      clear hx hlst
      have HKE : Hid (itL (vs.take k) = itL (vs.take k)) := Lib.hid rfl
      go_wp2_with fail
      go_loopw [5, 21] (fun o i wx => ∃ j : Nat, i = .int .i64 j ∧ j ≤ lst.length ∧ Hid (OwnS w1.heap.size wx o (itL (vs.take k) ++ (lst.take j).map low)) ∧ Hid (OwnS wr.heap.size wx (.slice A2 lst.length cp3) lst) ∧ Hid (∀ q, o.ownBlock = some q → (Value.slice A2 lst.length cp3).ownBlock ≠ some q) ∧ Hid (Chg [] w1 wx)) (fun _ i _ => lst.length - (intOf i).toNat)
      case atStart => exact ⟨0, rfl, by omega, Lib.hid (by simpa using HO2.out), HL, HNE, HC3⟩
      case round =>
        obtain ⟨j, rfl, hj, HO4, HL4, HN4, HC4⟩ := hrel
        by_cases hjl : j < lst.length
        · obtain ⟨y, hy⟩ : ∃ y, lst[j]? = some y := ⟨_, List.getElem?_eq_getElem hjl⟩
          obtain ⟨g2, cp4, he, hcp2, hg2, hcells⟩ := HL4.out.read (by omega)
          obtain ⟨rfl, rfl⟩ : A2 = some ⟨g2, 0, none⟩ ∧ cp3 = cp4 := by injection he with h1 h2 h3; exact ⟨h1, h3⟩
          have c2 := hcells j y hy
          have hys : y.size ≤ 1048576 := Nat.le_trans (HXB.out y (List.mem_of_getElem? hy)) hxs
          have HTK := Lib.hid (show (lst.take (j + 1)).map low = (lst.take j).map low ++ [low y] by rw [List.take_add_one, hy, List.map_append]; rfl)
          clear hcells he
          go_wp2_with fail
          refine (rlower_low y _ hys).mono ?_
          rintro e w3 ⟨rfl, HC5⟩
          have HO5 := Lib.hid (HO4.out.chg HC5.out)
          have HL5 := Lib.hid (HL4.out.chg HC5.out)
          have HC6 := Lib.hid (HC4.out.trans HC5.out (by simp))
          have hbj := HBJ.out j
          have HBE := Lib.hid (show itL (vs.take k) ++ (lst.take (j + 1)).map low = (itL (vs.take k) ++ (lst.take j).map low) ++ [low y] by rw [HTK.out, List.append_assoc])
          clear hy HO4 HL4 HC4 HC5
          generalize itL (vs.take k) ++ (lst.take j).map low = dn at HO5 hbj HBE
          generalize low y = ly at HBE ⊢
          obtain ⟨A6, cp6, rfl⟩ := HO5.out.form
          have hsz6 := HC6.out.size
          have HGB := Lib.hid ((World.ownsRow.lt HL5.out g2 rfl).2)
          go_wp2_with (at_builtin; refine wpList_append_own_at _ rfl _ _ 29 rfl w1.heap.size 9 i0 (.string ⟨#[]⟩) 1 16 Tryd.underlying29 HI.out.1 HI.out.2.1 HI.out.2.2.1 HI.out.2.2.2 rfl (by decide) (.slice A6 dn.length cp6) dn.length (dn.map Value.string) rfl (World.ownsRow.alloc HO5.out _) ⟨w3.heap.size, 0, none⟩ 1 1 [.string ly] rfl rfl (cell_one_new _ _ _) (by simp [Value.oneCell']) (by unfold maxLen; omega) (by omega) (by simp; omega) ?_; intro v7 w7 hown hgrow _ hat)
          have HC7 := Lib.hid (Chg.grownOwn (HC6.out.alloc _) (World.ownsRow.alloc HO5.out _) (Nat.le_refl _) hgrow)
          have HO7 := Lib.hid (OwnS.push hown)
          have HL7 := Lib.hid (World.ownsRow.kept (World.ownsRow.alloc HL5.out (.cells #[.string ly] 9)) hgrow (.inr (fun e => HN4.out _ e.symm rfl)))
          have HN7 : Hid (∀ q, v7.ownBlock = some q → (Value.slice (some ⟨g2, 0, none⟩) lst.length cp3).ownBlock ≠ some q) := Lib.hid (fun q hq => by
            rcases hat with hat | hat
            · exact HN4.out q (by rw [← hat]; exact hq)
            · rw [hq] at hat
              injection hat with hat
              intro e
              injection e with e
              have := HGB.out
              simp at hat e
              omega)
          clear hown hgrow hat
          go_roundw
          case rel => exact ⟨j + 1, by go_num, by omega, Lib.hid (by rw [HBE.out]; exact HO7.out), HL7, HN7, HC7⟩
          case measure => simp [intOf]; omega
        · obtain rfl : j = lst.length := by omega
          rw [List.take_length, ← HSU.out] at HO4
          go_wp2
          go_roundw
          case rel => exact ⟨k + 1, by go_num, by omega, HO4, HC4⟩
          case measure => simp [intOf]; omega
    · obtain rfl : k = vs.length := by omega
      rw [List.take_length, HEND.out] at HO
      go_wp2
      go_ret
      exact ⟨_, rfl, Lib.hid (HO.out.lower HSZ1.out), Lib.hid (HC1.out.trans HC.out (by simp))⟩
end Go.Proofs.YtiimofejcakgoaaDoor
