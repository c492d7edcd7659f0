/- Layer 7 (fields): the place of a field; the reference's Set. -/
import Derived.Test.YtiimofejcakgoaaDoorFB
namespace Go.Proofs.YtiimofejcakgoaaDoor
open Go.RowKit Go.ChangeShapes Go.WideShapes Go.Maps Go.WideMaps
set_option linter.unusedVariables false

/-- Where the first field of that name lies; as many as there are fields if there is none. -/
def firstI (fs : List Fd) (name : ByteArray) : Nat := (fs.takeWhile (dropF name)).length
theorem firstI_le (fs : List Fd) (name : ByteArray) : firstI fs name ≤ fs.length := (List.takeWhile_prefix _).length_le
theorem take_first (fs : List Fd) (name : ByteArray) : fs.take (firstI fs name) = fs.takeWhile (dropF name) := by
  have h := List.takeWhile_append_dropWhile (p := dropF name) (l := fs)
  have h2 : (fs.takeWhile (dropF name) ++ fs.dropWhile (dropF name)).take (fs.takeWhile (dropF name)).length = fs.takeWhile (dropF name) := List.take_left
  rw [h] at h2
  exact h2
theorem drop_first (fs : List Fd) (name : ByteArray) : fs.drop (firstI fs name) = fs.dropWhile (dropF name) := by
  have h := List.takeWhile_append_dropWhile (p := dropF name) (l := fs)
  have h2 : (fs.takeWhile (dropF name) ++ fs.dropWhile (dropF name)).drop (fs.takeWhile (dropF name)).length = fs.dropWhile (dropF name) := List.drop_left
  rw [h] at h2
  exact h2
theorem first_hit : ∀ (fs : List Fd) (name : ByteArray) (k : Nat) (f : Fd), fs[k]? = some f → dropF name f = false → (∀ (j : Nat) (g : Fd), j < k → fs[j]? = some g → dropF name g = true) → firstI fs name = k
  | [], name, k, f, h, _, _ => by simp at h
  | g :: fs, name, 0, f, h, hf, _ => by
    simp at h
    subst h
    unfold firstI
    rw [List.takeWhile_cons, hf]
    rfl
  | g :: fs, name, k + 1, f, h, hf, ha => by
    have h1 := ha 0 g (by omega) rfl
    have h2 := first_hit fs name k f (by simpa using h) hf (fun j x hj hx => ha (j + 1) x (by omega) (by simpa using hx))
    unfold firstI at h2 ⊢
    rw [List.takeWhile_cons, h1, if_pos rfl, List.length_cons, h2]
theorem first_none : ∀ (fs : List Fd) (name : ByteArray), (∀ (j : Nat) (g : Fd), fs[j]? = some g → dropF name g = true) → firstI fs name = fs.length
  | [], name, _ => rfl
  | g :: fs, name, ha => by
    have h1 := ha 0 g rfl
    have h2 := first_none fs name (fun j x hx => ha (j + 1) x (by simpa using hx))
    unfold firstI at h2 ⊢
    rw [List.takeWhile_cons, h1, if_pos rfl, List.length_cons, h2, List.length_cons]
set_option maxHeartbeats 8000000 in
theorem pred_any (n x name : ByteArray) (p : Nat) (W : World) (hn : n.size ≤ 1048576) (hm : name.size ≤ 1048576) (hb : Hid (Blk W p [.string name] 9)) :
    Calls Tryd.prog 42 #[.agg #[.string n, .string x], .pointer (some ⟨p, 0, none⟩)] W fun e w' => e = .returned (.bool (sameB n name)) ∧ Hid (Chg [] W w') := by
  have HBA := Lib.hid (hb.out.chg ((Chg.refl [] W).alloc (.cells #[.string n, .string x] 36)) (by simp))
  have HCA := Lib.hid ((Chg.refl [] W).alloc (.cells #[.string n, .string x] 36))
  have c1 := HBA.out.cell 0 _ rfl
  have c0 := hb.out.cell 0 _ rfl
  have hlt := hb.out.lt
  go_enter Tryd.func42, Tryd.ntmps42
  go_wp2_with fail
  refine (same_any n name _ hn hm (sameB n name) rfl).mono ?_
  rintro e w1 ⟨rfl, H1⟩
  go_wp2_with fail
  go_ret
  exact ⟨rfl, HCA.out.trans H1.out (by simp)⟩
set_option maxHeartbeats 8000000 in
set_option maxRecDepth 100000 in
theorem index_any (v : Value) (fs : List Fd) (name : ByteArray) (p : Nat) (w : World) (hf : Hid (Flds w v fs)) (hbd : Hid (BdF fs)) (hm : name.size ≤ 1048576) (hb : Hid (Blk w p [.string name] 9)) :
    Calls Tryd.prog 41 #[v, .func (.func 42) #[] #[.pointer (some ⟨p, 0, none⟩)]] w fun e w' => (∃ i : Int, e = .returned (.int .i64 i) ∧ ((i = (firstI fs name : Int) ∧ firstI fs name < fs.length) ∨ (i = -1 ∧ firstI fs name = fs.length))) ∧ Hid (Chg [] w w') := by
  obtain ⟨a, cap, rfl, hcap, hr⟩ := hf.out
  have HR := Lib.hid hr
  have hlen : fs.length ≤ 2000000 := hbd.out.1
  clear hr
  have eg : ∀ args w, (callFunc 42 args).run Tryd.prog w = .ok (.enter 42 args) w := enters_of Tryd.func42 (by kernel_rfl) rfl
  go_enter Tryd.func41, Tryd.ntmps41
  go_wp2
  go_loopw [8] (fun i wr => ∃ k : Nat, i = .int .i64 k ∧ k ≤ fs.length ∧ Hid (∀ j g, j < k → fs[j]? = some g → dropF name g = true) ∧ Hid (Chg [] w wr)) (fun i _ => fs.length - (intOf i).toNat)
  case atStart => exact ⟨0, rfl, by omega, Lib.hid (fun j g hj => by omega), Chg.refl _ _⟩
  case round =>
    obtain ⟨k, rfl, hk, HN, HC⟩ := hrel
    by_cases hlt : k < fs.length
    · obtain ⟨b, o, rfl, hbs, hx⟩ := HR.out (by omega)
      obtain ⟨f, hfk⟩ : ∃ f, fs[k]? = some f := ⟨_, List.getElem?_eq_getElem hlt⟩
      have c1 := HC.out.cell (hx k f hfk).1 (by simp)
      have c2 := HC.out.cell (hx k f hfk).2 (by simp)
      obtain ⟨hs1, hs2⟩ := hbd.out.2.2 f (List.mem_of_getElem? hfk)
      have HX := Lib.hid hfk
      clear hx hfk
      obtain ⟨n, x⟩ := f
      dsimp only at c1 c2 hs1 hs2
      have hcall := pred_any n x name p wr hs1 hm (Lib.hid (hb.out.chg HC.out (by simp)))
      have HD : Hid (dropF name (n, x) = !sameB n name) := Lib.hid rfl
      cases hsm : sameB n name
      · rw [hsm] at hcall HD
        have HN2 := Lib.hid (show ∀ (j : Nat) (g : Fd), j < k + 1 → fs[j]? = some g → dropF name g = true from fun j g hj hg => by
          rcases Nat.lt_or_ge j k with h | h
          · exact HN.out j g h hg
          · obtain rfl : j = k := by omega
            rw [HX.out] at hg
            injection hg with hg
            rw [← hg]; exact HD.out)
        clear hsm
        go_wp2_with (go_at_fn 42; refine hcall.mono ?_; rintro e w2 ⟨rfl, H2⟩)
        go_roundw
        case rel => exact ⟨k + 1, by go_num, by omega, HN2, HC.out.trans H2.out (by simp)⟩
        case measure => simp [intOf]; omega
      · rw [hsm] at hcall HD
        have HE := Lib.hid (first_hit fs name k _ HX.out HD.out HN.out)
        clear hsm
        go_wp2_with (go_at_fn 42; refine hcall.mono ?_; rintro e w2 ⟨rfl, H2⟩)
        go_ret
        exact ⟨⟨(k : Int), rfl, .inl ⟨by rw [HE.out], by rw [HE.out]; exact hlt⟩⟩, HC.out.trans H2.out (by simp)⟩
    · obtain rfl : k = fs.length := by omega
      have HE := Lib.hid (first_none fs name (fun j g hj => HN.out j g (List.getElem?_eq_some_iff.1 hj).1 hj))
      go_wp2
      go_ret
      exact ⟨⟨-1, rfl, .inr ⟨rfl, HE.out⟩⟩, HC⟩
/-- The reference's Set, element by element. -/
def setL (name value : ByteArray) : Bool → List Fd → List Fd
  | dn, [] => if dn = true then [] else [(name, value)]
  | dn, f :: l => if dropF name f = true then f :: setL name value dn l else if dn = true then setL name value true l else (name, value) :: setL name value true l
def setB (fs : List Fd) (name value : ByteArray) : List Fd := fs.takeWhile (dropF name) ++ [(name, value)] ++ dropB (fs.dropWhile (dropF name)) name
def setF (fs : List Fd) (name value : ByteArray) : List Fd := if fieldE name value = 0 then setB fs name value else []
theorem setL_true (name value : ByteArray) : ∀ fs : List Fd, setL name value true fs = dropB fs name
  | [] => rfl
  | f :: l => by
    unfold setL dropB
    rw [List.filter_cons, setL_true name value l]
    unfold dropB
    cases dropF name f <;> rfl
theorem setL_eq (name value : ByteArray) : ∀ fs : List Fd, setL name value false fs = setB fs name value
  | [] => rfl
  | f :: l => by
    unfold setL setB
    rw [List.takeWhile_cons, List.dropWhile_cons]
    cases h : dropF name f
    · simp only [Bool.false_eq_true, if_false]
      rw [setL_true]
      unfold dropB
      rw [List.filter_cons, h]
      rfl
    · simp only [if_true]
      rw [setL_eq name value l]
      rfl
theorem setL_step {name value : ByteArray} {fs o R : List Fd} {k : Nat} {f : Fd} {dn : Bool} (h : o ++ setL name value dn (fs.drop k) = R) (hf : fs[k]? = some f) :
    (if dropF name f = true then o ++ [f] else if dn = true then o else o ++ [(name, value)]) ++ setL name value (if dropF name f = true then dn else true) (fs.drop (k + 1)) = R := by
  have hk := (List.getElem?_eq_some_iff.1 hf).1
  have e : f = fs[k] := (List.getElem?_eq_some_iff.1 hf).2.symm
  rw [List.drop_eq_getElem_cons hk, ← e] at h
  unfold setL at h
  rw [← h]
  cases dropF name f <;> cases dn <;> simp
set_option maxHeartbeats 8000000 in
set_option maxRecDepth 100000 in
theorem rset_any (v : Value) (fs : List Fd) (name value : ByteArray) (w : World) (hf : Hid (Flds w v fs)) (hb : Hid (BdF fs)) (hn : name.size ≤ 1048576) (hv : value.size ≤ 1048576) :
    Calls Tryd.prog 25 #[v, .string name, .string value] w fun e w' => ∃ r, e = .returned (.tuple #[r, .int .i64 (fieldE name value)]) ∧ Hid (Flds w' r (setF fs name value)) ∧ Hid (Chg [] w w') := by
  have HE : Hid (fieldE name value = if tokB name = false then 70 else if valB value = false then 71 else 0) := Lib.hid rfl
  obtain ⟨a, cap, rfl, hcap, hr⟩ := hf.out
  have HR := Lib.hid hr
  have hlen : fs.length ≤ 2000000 := hb.out.1
  clear hr
  go_enter Tryd.func25, Tryd.ntmps25
  go_wp2_with fail
  refine (rtoken_any name _ hn).mono ?_
  rintro e w1 ⟨rfl, H1⟩
  cases ht : tokB name
  · rw [ht] at HE
    have HE2 := Lib.hid (show fieldE name value = 70 by rw [HE.out]; rfl)
    go_wp2_with fail
    go_ret2
    exact ⟨_, by rw [HE2.out]; rfl, Lib.hid (by unfold setF; rw [HE2.out, if_neg (by decide)]; exact (OwnF.nil 0 _).flds), H1⟩
  · rw [ht] at HE
    go_wp2_with fail
    refine (rvalue_any value _ hv).mono ?_
    rintro e w1b ⟨rfl, rfl⟩
    cases hvl : valB value
    · rw [hvl] at HE
      have HE2 := Lib.hid (show fieldE name value = 71 by rw [HE.out]; rfl)
      go_wp2_with fail
      go_ret2
      exact ⟨_, by rw [HE2.out]; rfl, Lib.hid (by unfold setF; rw [HE2.out, if_neg (by decide)]; exact (OwnF.nil 0 _).flds), H1⟩
    · rw [hvl] at HE
      have HE2 := Lib.hid (show fieldE name value = 0 by rw [HE.out]; rfl)
      have HEND := Lib.hid (show setF fs name value = setL name value false fs by unfold setF; rw [HE2.out, if_pos rfl, setL_eq])
      clear HE
      go_wp2_with fail
      go_loopw [8, 9, 20] (fun o d i wr => ∃ (k : Nat) (dn : List Fd) (D : Bool), i = .int .i64 k ∧ d = .bool D ∧ k ≤ fs.length ∧ dn.length ≤ k ∧ Hid (dn ++ setL name value D (fs.drop k) = setL name value false fs) ∧ Hid (OwnF w.heap.size wr o dn) ∧ Hid (Chg [] w wr)) (fun _ _ i _ => fs.length - (intOf i).toNat)
      case atStart => exact ⟨0, [], false, rfl, rfl, by omega, Nat.le_refl _, Lib.hid rfl, Lib.hid (OwnF.nil _ _), H1⟩
      case round =>
        obtain ⟨k, dn, D, rfl, rfl, hk, hdn, HS, HO, HC⟩ := hrel
        by_cases hlt : k < fs.length
        · obtain ⟨b, o, rfl, hbs, hx⟩ := HR.out (by omega)
          obtain ⟨f, hfk⟩ : ∃ f, fs[k]? = some f := ⟨_, List.getElem?_eq_getElem hlt⟩
          have c1 := HC.out.cell (hx k f hfk).1 (by simp)
          have c2 := HC.out.cell (hx k f hfk).2 (by simp)
          obtain ⟨hs1, hs2⟩ := hb.out.2.2 f (List.mem_of_getElem? hfk)
          have HS2 := Lib.hid (setL_step HS.out hfk)
          clear hx hfk
          obtain ⟨n, x⟩ := f
          dsimp only at c1 c2 hs1 hs2
          have HD : Hid (dropF name (n, x) = !sameB n name) := Lib.hid rfl
          have HB := Lib.hid (Blk.new wr [.string n, .string x] 36)
          have HC1 := Lib.hid (HC.out.alloc (.cells #[.string n, .string x] 36))
          have HO1 := Lib.hid (World.ownsRow.alloc HO.out (.cells #[.string n, .string x] 36))
          go_wp2_with fail
          refine (rsame_any n name _ hs1 hn (sameB n name) rfl).mono ?_
          rintro e w2 ⟨rfl, H2⟩
          have HB2 := Lib.hid (HB.out.chg H2.out (by simp))
          have HC2 := Lib.hid (HC1.out.trans H2.out (by simp))
          have HO2 : Hid (OwnF w.heap.size w2 u8 dn) := Lib.hid (ownsRow_chg HO1.out H2.out)
          have c3 := HB2.out.cell 0 _ rfl
          have c4 := HB2.out.cell 1 _ rfl
          clear HB HC1 HO1 H2 HC HO HS
          cases hsm : sameB n name
          · rw [hsm] at HD
            rw [HD.out] at HS2
            clear hsm
            obtain ⟨v5, w5, hr, ho, hg⟩ := run_push 22 w.heap.size (w2.alloc (.cells #[.string n, .string x] 36)) u8 dn n x w2.heap.size 1 (ownsRow_chg HO2.out ((Chg.refl [] w2).alloc _)) (Blk.new _ _ _) (by omega) (by have := HC2.out.size; simp; omega)
            have HO5 := Lib.hid ho
            have HC5 := Lib.hid (Chg.grownOwn (HC2.out.alloc (.cells #[.string n, .string x] 36)) (ownsRow_chg HO2.out ((Chg.refl [] w2).alloc (.cells #[.string n, .string x] 36))) (Nat.le_refl _) hg)
            clear ho hg
            go_wp2_with (at_builtin; refine wpList_appF rfl _ _ rfl _ _ rfl rfl v5 w5 hr ?_)
            go_roundw
            case rel => exact ⟨k + 1, _, _, by go_num, rfl, by omega, by simp; omega, HS2, HO5, HC5⟩
            case measure => simp [intOf]; omega
          · rw [hsm] at HD
            rw [HD.out] at HS2
            clear hsm
            cases D
            · skip
              obtain ⟨v5, w5, hr, ho, hg⟩ := run_push 22 w.heap.size (w2.alloc (.cells #[.string name, .string value] 36)) u8 dn name value w2.heap.size 1 (ownsRow_chg HO2.out ((Chg.refl [] w2).alloc _)) (Blk.new _ _ _) (by omega) (by have := HC2.out.size; simp; omega)
              have HO5 := Lib.hid ho
              have HC5 := Lib.hid (Chg.grownOwn (HC2.out.alloc (.cells #[.string name, .string value] 36)) (ownsRow_chg HO2.out ((Chg.refl [] w2).alloc (.cells #[.string name, .string value] 36))) (Nat.le_refl _) hg)
              clear ho hg
              go_wp2_with (at_builtin; refine wpList_appF rfl _ _ rfl _ _ rfl rfl v5 w5 hr ?_)
              go_roundw
              case rel => exact ⟨k + 1, _, _, by go_num, rfl, by omega, by simp; omega, HS2, HO5, HC5⟩
              case measure => simp [intOf]; omega
            · go_wp2
              go_roundw
              case rel => exact ⟨k + 1, dn, _, by go_num, rfl, by omega, by omega, HS2, HO2, HC2⟩
              case measure => simp [intOf]; omega
        · obtain rfl : k = fs.length := by omega
          have HZ := HS.out
          rw [List.drop_length] at HZ
          cases D
          · have HZ2 := Lib.hid (show dn ++ [(name, value)] = setL name value false fs from HZ)
            obtain ⟨v5, w5, hr, ho, hg⟩ := run_push 22 w.heap.size (wr.alloc (.cells #[.string name, .string value] 36)) u8 dn name value wr.heap.size 1 (ownsRow_chg HO.out ((Chg.refl [] wr).alloc _)) (Blk.new _ _ _) (by omega) (by have := HC.out.size; simp; omega)
            have HO5 := Lib.hid ho
            have HC5 := Lib.hid (Chg.grownOwn (HC.out.alloc (.cells #[.string name, .string value] 36)) (ownsRow_chg HO.out ((Chg.refl [] wr).alloc (.cells #[.string name, .string value] 36))) (Nat.le_refl _) hg)
            clear ho hg HZ
            go_wp2_with (at_builtin; refine wpList_appF rfl _ _ rfl _ _ rfl rfl v5 w5 hr ?_)
            go_ret2
            exact ⟨_, by rw [HE2.out]; rfl, Lib.hid (by rw [HEND.out, ← HZ2.out]; exact HO5.out.flds), HC5⟩
          · have HZ2 := Lib.hid (show dn = setL name value false fs by rw [← HZ]; simp [setL])
            clear HZ
            go_wp2
            go_ret2
            exact ⟨_, by rw [HE2.out]; rfl, Lib.hid (by rw [HEND.out, ← HZ2.out]; exact HO.out.flds), HC⟩
end Go.Proofs.YtiimofejcakgoaaDoor
