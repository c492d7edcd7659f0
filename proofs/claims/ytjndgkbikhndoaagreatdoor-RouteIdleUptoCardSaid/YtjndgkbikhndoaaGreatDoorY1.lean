/- Layers 5, 7: the reference's Same; slices of fields; All, Get, both sides. -/
import Derived.Test.YtjndgkbikhndoaaGreatDoorM7
namespace Go.Proofs.YtjndgkbikhndoaaGreatDoor
open Go.RowKit Go.ChangeShapes Go.WideShapes
set_option linter.unusedVariables false

theorem rsame_any (a b : ByteArray) (w : World) (ha : a.size ≤ 1048576) (hb : b.size ≤ 1048576) (z : Bool) (hz : decide ((low a).toList = (low b).toList) = z) :
    Calls Tryz.prog 78 #[.string a, .string b] w fun e w' => e = .returned (.bool z) ∧ Hid (Chg [] w w') := by
  have HZ := Lib.hid hz
  clear hz
  go_enter Tryz.func78, Tryz.ntmps78
  go_wp2_with fail
  refine (rlower_any a _ ha).mono ?_
  rintro e w1 ⟨rfl, H1⟩
  go_wp2_with fail
  refine (rlower_any b _ hb).mono ?_
  rintro e w2 ⟨rfl, H2⟩
  have hl1 : (⟨(a.data.toList.map lowB).toArray⟩ : ByteArray) = low a := rfl
  have hl2 : (⟨(b.data.toList.map lowB).toArray⟩ : ByteArray) = low b := rfl
  rw [hl1, hl2]
  clear hl1 hl2
  go_wp2_with fail
  go_ret
  refine ⟨?_, H1.out.trans H2.out (by simp)⟩
  rw [← HZ.out]
  first
  | rfl
  | (congr 2; by_cases h : (low a).toList = (low b).toList <;> simp [h])

abbrev Fd := ByteArray × ByteArray
/-- A slice of fields that is read. -/
def Flds (w : World) (v : Value) (fs : List Fd) : Prop :=
  ∃ a cap, v = .slice a fs.length cap ∧ fs.length ≤ cap ∧ (0 < fs.length → ∃ b o, a = some ⟨b, o, none⟩ ∧ b < w.heap.size ∧ ∀ (j : Nat) (f : Fd), fs[j]? = some f → w.cell? ⟨b, o + j * 2, none⟩ = some (.string f.1) ∧ w.cell? ⟨b, o + j * 2 + 1, none⟩ = some (.string f.2))
theorem Flds.chg {w w' : World} {v : Value} {fs : List Fd} (h : Flds w v fs) (hc : Chg [] w w') : Flds w' v fs := by
  obtain ⟨a, cap, rfl, hcap, hr⟩ := h
  refine ⟨a, cap, rfl, hcap, fun h0 => ?_⟩
  obtain ⟨b, o, rfl, hb, hx⟩ := hr h0
  exact ⟨b, o, rfl, Nat.lt_of_lt_of_le hb hc.size, fun j f hj => ⟨hc.cell (hx j f hj).1 (by simp), hc.cell (hx j f hj).2 (by simp)⟩⟩
def lensF (fs : List Fd) : Nat := (fs.map (fun f => f.1.size + f.2.size)).sum
/-- Not too many, not too long. -/
def BdF (fs : List Fd) : Prop := fs.length ≤ 2000000 ∧ lensF fs ≤ 2000000 ∧ ∀ f, f ∈ fs → f.1.size ≤ 1048576 ∧ f.2.size ≤ 1048576
def sameB (a b : ByteArray) : Bool := decide ((low a).toList = (low b).toList)
def allB (fs : List Fd) (name : ByteArray) : List ByteArray := (fs.filter (fun f => sameB f.1 name)).map (·.2)
theorem allB_succ {fs : List Fd} {name : ByteArray} {k : Nat} {f : Fd} (h : fs[k]? = some f) : allB (fs.take (k + 1)) name = allB (fs.take k) name ++ (if sameB f.1 name = true then [f.2] else []) := by
  unfold allB
  rw [List.take_add_one, h, List.filter_append, List.map_append]
  show _ ++ List.map _ (List.filter _ [f]) = _
  rw [List.filter_cons]
  split <;> rfl
theorem allB_len (fs : List Fd) (name : ByteArray) (k : Nat) : (allB (fs.take k) name).length ≤ fs.length := by
  unfold allB
  rw [List.length_map]
  refine Nat.le_trans (List.length_filter_le _ _) ?_
  rw [List.length_take]
  omega
set_option maxHeartbeats 8000000 in
set_option maxRecDepth 100000 in
theorem all_any (v : Value) (fs : List Fd) (name : ByteArray) (w : World) (hf : Hid (Flds w v fs)) (hb : Hid (BdF fs)) (hn : name.size ≤ 1048576) :
    Calls Tryz.prog 46 #[v, .string name] w fun e w' => ∃ r, e = .returned r ∧ Hid (OwnS w.heap.size w' r (allB fs name)) ∧ Hid (Chg [] w w') := by
  obtain ⟨i0, hi, hz0, hz1, hz2⟩ := info_parts info9
  have HI := Lib.hid (And.intro hi (And.intro hz0 (And.intro hz1 hz2)))
  clear hi hz0 hz1 hz2
  obtain ⟨a, cap, rfl, hcap, hr⟩ := hf.out
  have HR := Lib.hid hr
  have hlen : fs.length ≤ 2000000 := hb.out.1
  clear hr
  go_enter Tryz.func46, Tryz.ntmps46
  go_wp2
  go_loopw [5, 10] (fun r i wr => ∃ k : Nat, i = .int .i64 k ∧ k ≤ fs.length ∧ Hid (OwnS w.heap.size wr r (allB (fs.take k) name)) ∧ Hid (Chg [] w wr)) (fun _ i _ => fs.length - (intOf i).toNat)
  case atStart => exact ⟨0, rfl, by omega, Lib.hid (OwnS.nil _ _), Chg.refl _ _⟩
  case round =>
    obtain ⟨k, rfl, hk, HO, HC⟩ := hrel
    by_cases hlt : k < fs.length
    · obtain ⟨b, o, rfl, hbs, hx⟩ := HR.out (by omega)
      obtain ⟨f, hfk⟩ : ∃ f, fs[k]? = some f := ⟨_, List.getElem?_eq_getElem hlt⟩
      have c1 := HC.out.cell (hx k f hfk).1 (by simp)
      have c2 := HC.out.cell (hx k f hfk).2 (by simp)
      obtain ⟨hs1, hs2⟩ := hb.out.2.2 f (List.mem_of_getElem? hfk)
      have HS := Lib.hid (allB_succ (name := name) hfk)
      clear hx
      obtain ⟨n, x⟩ := f
      dsimp only at c1 c2 hs1 hs2 HS
      go_wp2_with fail
      have hz : decide ((low n).toList = (low name).toList) = sameB n name := rfl
      have HB := Lib.hid (Blk.new wr [.string n, .string x] 56)
      have HC1 := Lib.hid (HC.out.alloc (.cells #[.string n, .string x] 56))
      have HO1 := Lib.hid (World.ownsRow.alloc HO.out (.cells #[.string n, .string x] 56))
      refine (same_any n name _ hs1 hn _ hz).mono ?_
      rintro e w2 ⟨rfl, H2⟩
      clear hz
      have HB2 := Lib.hid (HB.out.chg H2.out (by simp))
      have HC2 := Lib.hid (HC1.out.trans H2.out (by simp))
      have HO2 := Lib.hid (ownsRow_chg HO1.out H2.out)
      have c4 := HB2.out.cell 1 _ rfl
      clear HB HC1 HO1 H2 HC HO hfk
      cases hsm : sameB n name
      · rw [hsm] at HS
        have HE := Lib.hid (show allB (fs.take (k + 1)) name = allB (fs.take k) name by have := HS.out; simpa using this)
        clear hsm
        go_wp2
        go_roundw
        case rel => exact ⟨k + 1, by go_num, by omega, Lib.hid (by rw [HE.out]; exact HO2.out), HC2⟩
        case measure => simp [intOf]; omega
      · rw [hsm] at HS
        have HE := Lib.hid (show allB (fs.take (k + 1)) name = allB (fs.take k) name ++ [x] by have := HS.out; simpa using this)
        clear hsm
        obtain ⟨A, cp, rfl⟩ := OwnS.form (show OwnS _ _ _ (allB (fs.take k) name) from HO2.out)
        have hal := allB_len fs name k
        have hsz2 := HC2.out.size
        go_wp2_with (at_builtin; refine wpList_append_own _ rfl _ _ 22 rfl w.heap.size 9 i0 (.string ⟨#[]⟩) 1 16 Tryz.underlying22 HI.out.1 HI.out.2.1 HI.out.2.2.1 HI.out.2.2.2 rfl (by decide) (.slice A (allB (fs.take k) name).length cp) (allB (fs.take k) name).length ((allB (fs.take k) name).map Value.string) rfl (World.ownsRow.alloc HO2.out _) ⟨w2.heap.size, 0, none⟩ 1 1 [.string x] rfl rfl (cell_one_new _ _ _) (by simp [Value.oneCell']) (by unfold maxLen; omega) (by omega) (by simp; omega) ?_; intro v5 w5 hown hgrow _)
        have HC5 := Lib.hid (Chg.grownOwn (HC2.out.alloc _) (World.ownsRow.alloc HO2.out _) (Nat.le_refl _) hgrow)
        have HO5 := Lib.hid (OwnS.push hown)
        clear hown hgrow
        go_roundw
        case rel => exact ⟨k + 1, by go_num, by omega, Lib.hid (by rw [HE.out]; exact HO5.out), HC5⟩
        case measure => simp [intOf]; omega
    · obtain rfl : k = fs.length := by omega
      rw [List.take_length] at HO
      go_wp2
      go_ret
      exact ⟨_, rfl, HO, HC⟩
set_option maxHeartbeats 8000000 in
set_option maxRecDepth 100000 in
theorem rall_any (v : Value) (fs : List Fd) (name : ByteArray) (w : World) (hf : Hid (Flds w v fs)) (hb : Hid (BdF fs)) (hn : name.size ≤ 1048576) :
    Calls Tryz.prog 51 #[v, .string name] w fun e w' => ∃ r, e = .returned r ∧ Hid (OwnS w.heap.size w' r (allB fs name)) ∧ Hid (Chg [] w w') := by
  obtain ⟨i0, hi, hz0, hz1, hz2⟩ := info_parts info9
  have HI := Lib.hid (And.intro hi (And.intro hz0 (And.intro hz1 hz2)))
  clear hi hz0 hz1 hz2
  obtain ⟨a, cap, rfl, hcap, hr⟩ := hf.out
  have HR := Lib.hid hr
  have hlen : fs.length ≤ 2000000 := hb.out.1
  clear hr
  go_enter Tryz.func51, Tryz.ntmps51
  go_wp2
  go_loopw [5, 10] (fun r i wr => ∃ k : Nat, i = .int .i64 k ∧ k ≤ fs.length ∧ Hid (OwnS w.heap.size wr r (allB (fs.take k) name)) ∧ Hid (Chg [] w wr)) (fun _ i _ => fs.length - (intOf i).toNat)
  case atStart => exact ⟨0, rfl, by omega, Lib.hid (OwnS.nil _ _), Chg.refl _ _⟩
  case round =>
    obtain ⟨k, rfl, hk, HO, HC⟩ := hrel
    by_cases hlt : k < fs.length
    · obtain ⟨b, o, rfl, hbs, hx⟩ := HR.out (by omega)
      obtain ⟨f, hfk⟩ : ∃ f, fs[k]? = some f := ⟨_, List.getElem?_eq_getElem hlt⟩
      have c1 := HC.out.cell (hx k f hfk).1 (by simp)
      have c2 := HC.out.cell (hx k f hfk).2 (by simp)
      obtain ⟨hs1, hs2⟩ := hb.out.2.2 f (List.mem_of_getElem? hfk)
      have HS := Lib.hid (allB_succ (name := name) hfk)
      clear hx
      obtain ⟨n, x⟩ := f
      dsimp only at c1 c2 hs1 hs2 HS
      go_wp2_with fail
      have hz : decide ((low n).toList = (low name).toList) = sameB n name := rfl
      have HB := Lib.hid (Blk.new wr [.string n, .string x] 56)
      have HC1 := Lib.hid (HC.out.alloc (.cells #[.string n, .string x] 56))
      have HO1 := Lib.hid (World.ownsRow.alloc HO.out (.cells #[.string n, .string x] 56))
      refine (rsame_any n name _ hs1 hn _ hz).mono ?_
      rintro e w2 ⟨rfl, H2⟩
      clear hz
      have HB2 := Lib.hid (HB.out.chg H2.out (by simp))
      have HC2 := Lib.hid (HC1.out.trans H2.out (by simp))
      have HO2 := Lib.hid (ownsRow_chg HO1.out H2.out)
      have c4 := HB2.out.cell 1 _ rfl
      clear HB HC1 HO1 H2 HC HO hfk
      cases hsm : sameB n name
      · rw [hsm] at HS
        have HE := Lib.hid (show allB (fs.take (k + 1)) name = allB (fs.take k) name by have := HS.out; simpa using this)
        clear hsm
        go_wp2
        go_roundw
        case rel => exact ⟨k + 1, by go_num, by omega, Lib.hid (by rw [HE.out]; exact HO2.out), HC2⟩
        case measure => simp [intOf]; omega
      · rw [hsm] at HS
        have HE := Lib.hid (show allB (fs.take (k + 1)) name = allB (fs.take k) name ++ [x] by have := HS.out; simpa using this)
        clear hsm
        obtain ⟨A, cp, rfl⟩ := OwnS.form (show OwnS _ _ _ (allB (fs.take k) name) from HO2.out)
        have hal := allB_len fs name k
        have hsz2 := HC2.out.size
        go_wp2_with (at_builtin; refine wpList_append_own _ rfl _ _ 22 rfl w.heap.size 9 i0 (.string ⟨#[]⟩) 1 16 Tryz.underlying22 HI.out.1 HI.out.2.1 HI.out.2.2.1 HI.out.2.2.2 rfl (by decide) (.slice A (allB (fs.take k) name).length cp) (allB (fs.take k) name).length ((allB (fs.take k) name).map Value.string) rfl (World.ownsRow.alloc HO2.out _) ⟨w2.heap.size, 0, none⟩ 1 1 [.string x] rfl rfl (cell_one_new _ _ _) (by simp [Value.oneCell']) (by unfold maxLen; omega) (by omega) (by simp; omega) ?_; intro v5 w5 hown hgrow _)
        have HC5 := Lib.hid (Chg.grownOwn (HC2.out.alloc _) (World.ownsRow.alloc HO2.out _) (Nat.le_refl _) hgrow)
        have HO5 := Lib.hid (OwnS.push hown)
        clear hown hgrow
        go_roundw
        case rel => exact ⟨k + 1, by go_num, by omega, Lib.hid (by rw [HE.out]; exact HO5.out), HC5⟩
        case measure => simp [intOf]; omega
    · obtain rfl : k = fs.length := by omega
      rw [List.take_length] at HO
      go_wp2
      go_ret
      exact ⟨_, rfl, HO, HC⟩
def wtS (vs : List ByteArray) : Nat := (vs.map (fun v => v.size + 1)).sum
theorem wtS_take (vs : List ByteArray) : ∀ k, wtS (vs.take k) ≤ wtS vs := by
  unfold wtS
  induction vs with
  | nil => intro k; simp
  | cons v vs ih =>
    intro k
    cases k with
    | zero => simp
    | succ k =>
      rw [List.take_succ_cons, List.map_cons, List.map_cons, List.sum_cons, List.sum_cons]
      have := ih k
      omega
theorem wtS_all (fs : List Fd) (name : ByteArray) : wtS (allB fs name) ≤ lensF fs + fs.length := by
  unfold wtS allB lensF
  induction fs with
  | nil => simp
  | cons f fs ih =>
    rw [List.filter_cons]
    split
    · simp only [List.map_cons, List.sum_cons, List.length_cons]
      omega
    · simp only [List.map_cons, List.sum_cons, List.length_cons]
      omega
theorem allB_size (fs : List Fd) (name : ByteArray) (hb : BdF fs) (x : ByteArray) (h : x ∈ allB fs name) : x.size ≤ 1048576 := by
  unfold allB at h
  obtain ⟨f, hf, rfl⟩ := List.mem_map.1 h
  exact (hb.2.2 f (List.mem_filter.1 hf).1).2
theorem app_list (a b : ByteArray) : (a ++ b).data.toList = a.data.toList ++ b.data.toList := by
  rw [ByteArray.data_append, Array.toList_append]

def joinL (vs : List ByteArray) : List UInt8 := Lib.join (vs.map (·.data.toList)) [44, 32]
def joinB (vs : List ByteArray) : ByteArray := ⟨(joinL vs).toArray⟩
theorem joinL_first {vs : List ByteArray} {v : ByteArray} (h : vs[0]? = some v) : joinL (vs.take 1) = v.data.toList := by
  cases vs with
  | nil => simp at h
  | cons x r =>
    simp at h
    subst h
    exact Lib.join_one _ _
theorem joinL_succ {vs : List ByteArray} {k : Nat} {v : ByteArray} (h : vs[k + 1]? = some v) : joinL (vs.take (k + 1 + 1)) = joinL (vs.take (k + 1)) ++ [44, 32] ++ v.data.toList := by
  cases vs with
  | nil => simp at h
  | cons x r =>
    unfold joinL
    rw [List.take_succ_cons, List.take_succ_cons, List.map_cons, List.map_cons, Lib.join_cons, Lib.join_cons, List.map_take, List.map_take, Lib.joinTail_take_succ (y := v.data.toList)]
    · rw [List.append_assoc, List.append_assoc, List.append_assoc]
    · rw [List.getElem?_map]
      simp at h
      rw [h]
      rfl
theorem joinL_len (vs : List ByteArray) : (joinL vs).length ≤ 2 * wtS vs := by
  cases vs with
  | nil => show ([] : List UInt8).length ≤ _; simp
  | cons x r =>
    unfold joinL
    rw [List.map_cons, Lib.join_length]
    have : Lib.lens (x.data.toList :: r.map (·.data.toList)) + (r.length + 1) = wtS (x :: r) := by
      unfold Lib.lens wtS
      rw [List.map_cons, List.map_cons, List.sum_cons, List.sum_cons, toList_len]
      have : ((r.map (·.data.toList)).map (·.length)).sum + r.length = (r.map (fun v => v.size + 1)).sum := by
        induction r with
        | nil => rfl
        | cons y r ih =>
          rw [List.map_cons, List.map_cons, List.map_cons, List.sum_cons, List.sum_cons, List.length_cons, toList_len]
          omega
      omega
    rw [List.length_map]
    simp only [List.length_cons, List.length_nil]
    omega
theorem join_bound (fs : List Fd) (name : ByteArray) (hb : BdF fs) (k : Nat) : (joinL ((allB fs name).take k)).length ≤ 8000000 := by
  have h1 := joinL_len ((allB fs name).take k)
  have h2 := wtS_take (allB fs name) k
  have h3 := wtS_all fs name
  have h4 := hb.1
  have h5 := hb.2.1
  omega
def getB (fs : List Fd) (name : ByteArray) : ByteArray := joinB (allB fs name)
def gotB (fs : List Fd) (name : ByteArray) : Bool := decide (0 < (allB fs name).length)
set_option maxHeartbeats 8000000 in
theorem get_any (v : Value) (fs : List Fd) (name : ByteArray) (w : World) (hf : Hid (Flds w v fs)) (hb : Hid (BdF fs)) (hn : name.size ≤ 1048576) :
    Calls Tryz.prog 27 #[v, .string name] w fun e w' => e = .returned (.tuple #[.string (getB fs name), .bool (gotB fs name)]) ∧ Hid (Chg [] w w') := by
  go_enter Tryz.func27, Tryz.ntmps27
  go_wp2_with fail
  refine (all_any v fs name w hf hb hn).mono ?_
  rintro e w1 ⟨r, rfl, HR, HC1⟩
  have hvl : (allB fs name).length ≤ 2000000 := by
    have h1 := allB_len fs name fs.length
    rw [List.take_length] at h1
    exact Nat.le_trans h1 hb.out.1
  have hjl : (joinL (allB fs name)).length ≤ 8000000 := by
    have h1 := join_bound fs name hb.out (allB fs name).length
    rw [List.take_length] at h1
    exact h1
  have HG : Hid (getB fs name = joinB (allB fs name) ∧ gotB fs name = decide (0 < (allB fs name).length)) := Lib.hid ⟨rfl, rfl⟩
  generalize allB fs name = vs at HR hvl hjl HG
  by_cases h0 : vs.length = 0
  · have hnil : vs = [] := List.eq_nil_of_length_eq_zero h0
    subst hnil
    obtain ⟨A, cp, rfl⟩ := HR.out.form
    have hj := Tryz.strings_Join_none A cp ⟨#[44, 32]⟩ w1
    go_wp2_with fail
    refine hj.mono ?_
    rintro e w2 ⟨rfl, rfl⟩
    go_wp2_with fail
    go_ret2
    refine ⟨?_, HC1.out⟩
    rw [HG.out.1, HG.out.2]
    rfl
  · obtain ⟨g, cp, rfl, hcp, hg, hcells⟩ := HR.out.read (by omega)
    have hj := Tryz.strings_Join g 0 cp vs ⟨#[44, 32]⟩ w1 (fun j x hx => by rw [Nat.zero_add]; exact hcells j x hx) hg (by omega) hcp (by
      show (joinL vs).length ≤ _
      omega)
    have hpos : (0 : Int) < (vs.length : Int) := by omega
    clear hcells
    go_wp2_with fail
    refine hj.mono ?_
    rintro e w2 ⟨rfl, H2⟩
    have HC2 := E.Chg.ofBelow H2
    have hE : (⟨(Lib.join (vs.map (·.data.toList)) (⟨#[44, 32]⟩ : ByteArray).data.toList).toArray⟩ : ByteArray) = joinB vs := rfl
    rw [hE]
    clear hE H2 hj
    go_wp2_with fail
    go_ret2
    refine ⟨?_, HC1.out.trans HC2.out (by simp)⟩
    rw [HG.out.1, HG.out.2, decide_eq_true (show 0 < vs.length by omega)]
    first
    | rfl
    | (simp; done)
set_option maxHeartbeats 8000000 in
set_option maxRecDepth 100000 in
theorem rget_any (v : Value) (fs : List Fd) (name : ByteArray) (w : World) (hf : Hid (Flds w v fs)) (hb : Hid (BdF fs)) (hn : name.size ≤ 1048576) :
    Calls Tryz.prog 29 #[v, .string name] w fun e w' => e = .returned (.tuple #[.string (getB fs name), .bool (gotB fs name)]) ∧ Hid (Chg [] w w') := by
  go_enter Tryz.func29, Tryz.ntmps29
  go_wp2_with fail
  refine (rall_any v fs name w hf hb hn).mono ?_
  rintro e w1 ⟨r, rfl, HR, HC1⟩
  have hvl : (allB fs name).length ≤ 2000000 := by
    have h1 := allB_len fs name fs.length
    rw [List.take_length] at h1
    exact Nat.le_trans h1 hb.out.1
  have HJL := Lib.hid (join_bound fs name hb.out)
  have HVS := Lib.hid (allB_size fs name hb.out)
  have HG : Hid (getB fs name = joinB (allB fs name) ∧ gotB fs name = decide (0 < (allB fs name).length)) := Lib.hid ⟨rfl, rfl⟩
  generalize allB fs name = vs at HR hvl HJL HG HVS
  obtain ⟨A, cp, rfl⟩ := HR.out.form
  go_wp2_with fail
  go_loopw [6, 15] (fun s i wr => ∃ (k : Nat) (t : ByteArray), i = .int .i64 k ∧ s = .string t ∧ k ≤ vs.length ∧ Hid (t.data.toList = joinL (vs.take k)) ∧ wr = w1) (fun _ i _ => vs.length - (intOf i).toNat)
  case atStart => exact ⟨0, ⟨#[]⟩, rfl, rfl, by omega, Lib.hid rfl, rfl⟩
  case round =>
    obtain ⟨k, t, rfl, rfl, hk, HT, rfl⟩ := hrel
    by_cases hlt : k < vs.length
    · obtain ⟨x, hx⟩ : ∃ x, vs[k]? = some x := ⟨_, List.getElem?_eq_getElem hlt⟩
      obtain ⟨g, cp2, he, hcp, hg, hcells⟩ := HR.out.read (by omega)
      obtain ⟨rfl, rfl⟩ : A = some ⟨g, 0, none⟩ ∧ cp = cp2 := by injection he with h1 h2 h3; exact ⟨h1, h3⟩
      have c1 := hcells k x hx
      have hxs := HVS.out x (List.mem_of_getElem? hx)
      have HX := Lib.hid hx
      have hts : t.size ≤ 8000000 := by
        have h1 := HJL.out k
        rw [← HT.out, toList_len] at h1
        exact h1
      clear hcells he hx
      cases k with
      | zero =>
        have hk0 : ¬ ((0 : Int) < ((0 : Nat) : Int)) := by omega
        go_wp2
        go_roundw
        case rel => exact ⟨1, _, rfl, rfl, by omega, Lib.hid (by rw [app_list, HT.out, joinL_first HX.out]; rfl), by first | rfl | trivial⟩
        case measure => simp [intOf]; omega
      | succ k =>
        have hk0 : ((0 : Int) < ((k + 1 : Nat) : Int)) := by omega
        go_wp2
        go_roundw
        case rel => exact ⟨k + 1 + 1, _, by first | rfl | (congr 1; omega), rfl, by omega, Lib.hid (by rw [app_list, app_list, HT.out, joinL_succ HX.out]), by first | rfl | trivial⟩
        case measure => simp [intOf]; omega
    · obtain rfl : k = vs.length := by omega
      rw [List.take_length] at HT
      go_wp2
      go_ret2
      refine ⟨?_, HC1.out⟩
      rw [HG.out.1, HG.out.2, show joinB vs = t from by unfold joinB; rw [← HT.out]]
      first
      | rfl
      | (simp; done)
end Go.Proofs.YtjndgkbikhndoaaGreatDoor
