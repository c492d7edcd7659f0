/- Layer 7 (fields): slices of fields; All, both sides. -/
import Derived.Test.YtiimofejcakgoaaDoorEC
namespace Go.Proofs.YtiimofejcakgoaaDoor
open Go.RowKit Go.ChangeShapes Go.WideShapes
set_option linter.unusedVariables false

abbrev Fd := ByteArray × ByteArray
/-- A slice of fields that is read. -/
def Flds (w : World) (v : Value) (fs : List Fd) : Prop :=
  ∃ a cap, v = .slice a fs.length cap ∧ fs.length ≤ cap ∧ (0 < fs.length → ∃ b o, a = some ⟨b, o, none⟩ ∧ b < w.heap.size ∧ ∀ (j : Nat) (f : Fd), fs[j]? = some f → w.cell? ⟨b, o + j * 2, none⟩ = some (.string f.1) ∧ w.cell? ⟨b, o + j * 2 + 1, none⟩ = some (.string f.2))
theorem Flds.chg {w w' : World} {v : Value} {fs : List Fd} (h : Flds w v fs) (hc : Chg [] w w') : Flds w' v fs := by
  obtain ⟨a, cap, rfl, hcap, hr⟩ := h
  refine ⟨a, cap, rfl, hcap, fun h0 => ?_⟩
  obtain ⟨b, o, rfl, hb, hx⟩ := hr h0
  exact ⟨b, o, rfl, Nat.lt_of_lt_of_le hb hc.size, fun j f hj => ⟨hc.cell (hx j f hj).1 (by simp), hc.cell (hx j f hj).2 (by simp)⟩⟩
def lensF (fs : List Fd) : Nat := (fs.map (fun f => f.1.size + f.2.size)).sum
/-- Not too many, not too long. -/
def BdF (fs : List Fd) : Prop := fs.length ≤ 2000000 ∧ lensF fs ≤ 2000000 ∧ ∀ f, f ∈ fs → f.1.size ≤ 1048576 ∧ f.2.size ≤ 1048576
def sameB (a b : ByteArray) : Bool := decide ((low a).toList = (low b).toList)
def allB (fs : List Fd) (name : ByteArray) : List ByteArray := (fs.filter (fun f => sameB f.1 name)).map (·.2)
theorem allB_succ {fs : List Fd} {name : ByteArray} {k : Nat} {f : Fd} (h : fs[k]? = some f) : allB (fs.take (k + 1)) name = allB (fs.take k) name ++ (if sameB f.1 name = true then [f.2] else []) := by
  unfold allB
  rw [List.take_add_one, h, List.filter_append, List.map_append]
  show _ ++ List.map _ (List.filter _ [f]) = _
  rw [List.filter_cons]
  split <;> rfl
theorem allB_len (fs : List Fd) (name : ByteArray) (k : Nat) : (allB (fs.take k) name).length ≤ fs.length := by
  unfold allB
  rw [List.length_map]
  refine Nat.le_trans (List.length_filter_le _ _) ?_
  rw [List.length_take]
  omega
set_option maxHeartbeats 8000000 in
set_option maxRecDepth 100000 in
theorem all_any (v : Value) (fs : List Fd) (name : ByteArray) (w : World) (hf : Hid (Flds w v fs)) (hb : Hid (BdF fs)) (hn : name.size ≤ 1048576) :
    Calls Tryd.prog 13 #[v, .string name] w fun e w' => ∃ r, e = .returned r ∧ Hid (OwnS w.heap.size w' r (allB fs name)) ∧ Hid (Chg [] w w') := by
  obtain ⟨i0, hi, hz0, hz1, hz2⟩ := info_parts info9
  have HI := Lib.hid (And.intro hi (And.intro hz0 (And.intro hz1 hz2)))
  clear hi hz0 hz1 hz2
  obtain ⟨a, cap, rfl, hcap, hr⟩ := hf.out
  have HR := Lib.hid hr
  have hlen : fs.length ≤ 2000000 := hb.out.1
  clear hr
  go_enter Tryd.func13, Tryd.ntmps13
  go_wp2
  go_loopw [5, 10] (fun r i wr => ∃ k : Nat, i = .int .i64 k ∧ k ≤ fs.length ∧ Hid (OwnS w.heap.size wr r (allB (fs.take k) name)) ∧ Hid (Chg [] w wr)) (fun _ i _ => fs.length - (intOf i).toNat)
  case atStart => exact ⟨0, rfl, by omega, Lib.hid (OwnS.nil _ _), Chg.refl _ _⟩
  case round =>
    obtain ⟨k, rfl, hk, HO, HC⟩ := hrel
    by_cases hlt : k < fs.length
    · obtain ⟨b, o, rfl, hbs, hx⟩ := HR.out (by omega)
      obtain ⟨f, hfk⟩ : ∃ f, fs[k]? = some f := ⟨_, List.getElem?_eq_getElem hlt⟩
      have c1 := HC.out.cell (hx k f hfk).1 (by simp)
      have c2 := HC.out.cell (hx k f hfk).2 (by simp)
      obtain ⟨hs1, hs2⟩ := hb.out.2.2 f (List.mem_of_getElem? hfk)
      have HS := Lib.hid (allB_succ (name := name) hfk)
      clear hx
      obtain ⟨n, x⟩ := f
      dsimp only at c1 c2 hs1 hs2 HS
      go_wp2_with fail
      have hz : decide ((low n).toList = (low name).toList) = sameB n name := rfl
      have HB := Lib.hid (Blk.new wr [.string n, .string x] 36)
      have HC1 := Lib.hid (HC.out.alloc (.cells #[.string n, .string x] 36))
      have HO1 := Lib.hid (World.ownsRow.alloc HO.out (.cells #[.string n, .string x] 36))
      refine (same_any n name _ hs1 hn _ hz).mono ?_
      rintro e w2 ⟨rfl, H2⟩
      clear hz
      have HB2 := Lib.hid (HB.out.chg H2.out (by simp))
      have HC2 := Lib.hid (HC1.out.trans H2.out (by simp))
      have HO2 := Lib.hid (ownsRow_chg HO1.out H2.out)
      have c4 := HB2.out.cell 1 _ rfl
      clear HB HC1 HO1 H2 HC HO hfk
      cases hsm : sameB n name
      · rw [hsm] at HS
        have HE := Lib.hid (show allB (fs.take (k + 1)) name = allB (fs.take k) name by have := HS.out; simpa using this)
        clear hsm
        go_wp2
        go_roundw
        case rel => exact ⟨k + 1, by go_num, by omega, Lib.hid (by rw [HE.out]; exact HO2.out), HC2⟩
        case measure => simp [intOf]; omega
      · rw [hsm] at HS
        have HE := Lib.hid (show allB (fs.take (k + 1)) name = allB (fs.take k) name ++ [x] by have := HS.out; simpa using this)
        clear hsm
        obtain ⟨A, cp, rfl⟩ := row_form HO2.out
        have hal := allB_len fs name k
        have hsz2 := HC2.out.size
        go_wp2_with (at_builtin; refine wpList_append_own _ rfl _ _ 29 rfl w.heap.size 9 i0 (.string ⟨#[]⟩) 1 16 Tryd.underlying29 HI.out.1 HI.out.2.1 HI.out.2.2.1 HI.out.2.2.2 rfl (by decide) (.slice A (allB (fs.take k) name).length cp) (allB (fs.take k) name).length ((allB (fs.take k) name).map Value.string) rfl (World.ownsRow.alloc HO2.out _) ⟨w2.heap.size, 0, none⟩ 1 1 [.string x] rfl rfl (cell_one_new _ _ _) (by simp [Value.oneCell']) (by unfold maxLen; omega) (by omega) (by simp; omega) ?_; intro v5 w5 hown hgrow _)
        have HC5 := Lib.hid (Chg.grownOwn (HC2.out.alloc _) (World.ownsRow.alloc HO2.out _) (Nat.le_refl _) hgrow)
        have HO5 := Lib.hid (OwnS.push hown)
        clear hown hgrow
        go_roundw
        case rel => exact ⟨k + 1, by go_num, by omega, Lib.hid (by rw [HE.out]; exact HO5.out), HC5⟩
        case measure => simp [intOf]; omega
    · obtain rfl : k = fs.length := by omega
      rw [List.take_length] at HO
      go_wp2
      go_ret
      exact ⟨_, rfl, HO, HC⟩
set_option maxHeartbeats 8000000 in
set_option maxRecDepth 100000 in
theorem rall_any (v : Value) (fs : List Fd) (name : ByteArray) (w : World) (hf : Hid (Flds w v fs)) (hb : Hid (BdF fs)) (hn : name.size ≤ 1048576) :
    Calls Tryd.prog 14 #[v, .string name] w fun e w' => ∃ r, e = .returned r ∧ Hid (OwnS w.heap.size w' r (allB fs name)) ∧ Hid (Chg [] w w') := by
  obtain ⟨i0, hi, hz0, hz1, hz2⟩ := info_parts info9
  have HI := Lib.hid (And.intro hi (And.intro hz0 (And.intro hz1 hz2)))
  clear hi hz0 hz1 hz2
  obtain ⟨a, cap, rfl, hcap, hr⟩ := hf.out
  have HR := Lib.hid hr
  have hlen : fs.length ≤ 2000000 := hb.out.1
  clear hr
  go_enter Tryd.func14, Tryd.ntmps14
  go_wp2
  go_loopw [5, 10] (fun r i wr => ∃ k : Nat, i = .int .i64 k ∧ k ≤ fs.length ∧ Hid (OwnS w.heap.size wr r (allB (fs.take k) name)) ∧ Hid (Chg [] w wr)) (fun _ i _ => fs.length - (intOf i).toNat)
  case atStart => exact ⟨0, rfl, by omega, Lib.hid (OwnS.nil _ _), Chg.refl _ _⟩
  case round =>
    obtain ⟨k, rfl, hk, HO, HC⟩ := hrel
    by_cases hlt : k < fs.length
    · obtain ⟨b, o, rfl, hbs, hx⟩ := HR.out (by omega)
      obtain ⟨f, hfk⟩ : ∃ f, fs[k]? = some f := ⟨_, List.getElem?_eq_getElem hlt⟩
      have c1 := HC.out.cell (hx k f hfk).1 (by simp)
      have c2 := HC.out.cell (hx k f hfk).2 (by simp)
      obtain ⟨hs1, hs2⟩ := hb.out.2.2 f (List.mem_of_getElem? hfk)
      have HS := Lib.hid (allB_succ (name := name) hfk)
      clear hx
      obtain ⟨n, x⟩ := f
      dsimp only at c1 c2 hs1 hs2 HS
      go_wp2_with fail
      have hz : decide ((low n).toList = (low name).toList) = sameB n name := rfl
      have HB := Lib.hid (Blk.new wr [.string n, .string x] 36)
      have HC1 := Lib.hid (HC.out.alloc (.cells #[.string n, .string x] 36))
      have HO1 := Lib.hid (World.ownsRow.alloc HO.out (.cells #[.string n, .string x] 36))
      refine (rsame_any n name _ hs1 hn _ hz).mono ?_
      rintro e w2 ⟨rfl, H2⟩
      clear hz
      have HB2 := Lib.hid (HB.out.chg H2.out (by simp))
      have HC2 := Lib.hid (HC1.out.trans H2.out (by simp))
      have HO2 := Lib.hid (ownsRow_chg HO1.out H2.out)
      have c4 := HB2.out.cell 1 _ rfl
      clear HB HC1 HO1 H2 HC HO hfk
      cases hsm : sameB n name
      · rw [hsm] at HS
        have HE := Lib.hid (show allB (fs.take (k + 1)) name = allB (fs.take k) name by have := HS.out; simpa using this)
        clear hsm
        go_wp2
        go_roundw
        case rel => exact ⟨k + 1, by go_num, by omega, Lib.hid (by rw [HE.out]; exact HO2.out), HC2⟩
        case measure => simp [intOf]; omega
      · rw [hsm] at HS
        have HE := Lib.hid (show allB (fs.take (k + 1)) name = allB (fs.take k) name ++ [x] by have := HS.out; simpa using this)
        clear hsm
        obtain ⟨A, cp, rfl⟩ := row_form HO2.out
        have hal := allB_len fs name k
        have hsz2 := HC2.out.size
        go_wp2_with (at_builtin; refine wpList_append_own _ rfl _ _ 29 rfl w.heap.size 9 i0 (.string ⟨#[]⟩) 1 16 Tryd.underlying29 HI.out.1 HI.out.2.1 HI.out.2.2.1 HI.out.2.2.2 rfl (by decide) (.slice A (allB (fs.take k) name).length cp) (allB (fs.take k) name).length ((allB (fs.take k) name).map Value.string) rfl (World.ownsRow.alloc HO2.out _) ⟨w2.heap.size, 0, none⟩ 1 1 [.string x] rfl rfl (cell_one_new _ _ _) (by simp [Value.oneCell']) (by unfold maxLen; omega) (by omega) (by simp; omega) ?_; intro v5 w5 hown hgrow _)
        have HC5 := Lib.hid (Chg.grownOwn (HC2.out.alloc _) (World.ownsRow.alloc HO2.out _) (Nat.le_refl _) hgrow)
        have HO5 := Lib.hid (OwnS.push hown)
        clear hown hgrow
        go_roundw
        case rel => exact ⟨k + 1, by go_num, by omega, Lib.hid (by rw [HE.out]; exact HO5.out), HC5⟩
        case measure => simp [intOf]; omega
    · obtain rfl : k = fs.length := by omega
      rw [List.take_length] at HO
      go_wp2
      go_ret
      exact ⟨_, rfl, HO, HC⟩
end Go.Proofs.YtiimofejcakgoaaDoor
