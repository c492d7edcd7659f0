/- Layer 7 (fields): without, Drop, both sides. -/
import Derived.Test.YtiimofejcakgoaaDoorF7
namespace Go.Proofs.YtiimofejcakgoaaDoor
open Go.RowKit Go.ChangeShapes Go.WideShapes Go.Maps Go.WideMaps
set_option linter.unusedVariables false

theorem filter_succ {p : Fd → Bool} {fs : List Fd} {k : Nat} {f : Fd} (h : fs[k]? = some f) : (fs.take (k + 1)).filter p = (fs.take k).filter p ++ (if p f = true then [f] else []) := by
  rw [List.take_add_one, h, List.filter_append]
  show _ ++ List.filter _ [f] = _
  rw [List.filter_cons]
  split <;> rfl
theorem filter_le (p : Fd → Bool) (fs : List Fd) (k : Nat) : ((fs.take k).filter p).length ≤ fs.length := by
  refine Nat.le_trans (List.length_filter_le _ _) ?_
  rw [List.length_take]
  omega
theorem low_size (s : ByteArray) : (low s).size = s.size := by
  rw [← toList_len, ← toList_len]
  unfold low
  simp
def keepM (ks : List ByteArray) (f : Fd) : Bool := !memB (low f.1) ks
set_option maxHeartbeats 8000000 in
set_option maxRecDepth 100000 in
theorem without_any (v : Value) (fs : List Fd) (bm nm : Nat) (ks : List ByteArray) (w : World) (hf : Hid (Flds w v fs)) (hb : Hid (BdF fs)) (hm : Hid (OwnM w bm nm ks)) :
    Calls Tryd.prog 40 #[v, .map (some bm)] w fun e w' => ∃ r, e = .returned r ∧ Hid (OwnF w.heap.size w' r (fs.filter (keepM ks))) ∧ Hid (Chg [] w w') := by
  obtain ⟨i0, hi, hz0, hz1, hz2⟩ := info_parts info36
  have HI := Lib.hid (And.intro hi (And.intro hz0 (And.intro hz1 hz2)))
  clear hi hz0 hz1 hz2
  obtain ⟨a, cap, rfl, hcap, hr⟩ := hf.out
  have HR := Lib.hid hr
  have hlen : fs.length ≤ 2000000 := hb.out.1
  clear hr
  go_enter Tryd.func40, Tryd.ntmps40
  go_wp2
  go_loopw [5, 10] (fun r i wr => ∃ k : Nat, i = .int .i64 k ∧ k ≤ fs.length ∧ Hid (OwnF w.heap.size wr r ((fs.take k).filter (keepM ks))) ∧ Hid (Chg [] w wr)) (fun _ i _ => fs.length - (intOf i).toNat)
  case atStart => exact ⟨0, rfl, by omega, Lib.hid (OwnF.nil _ _), Chg.refl _ _⟩
  case round =>
    obtain ⟨k, rfl, hk, HO, HC⟩ := hrel
    by_cases hlt : k < fs.length
    · skip
      obtain ⟨b, o, rfl, hbs, hx⟩ := HR.out (by omega)
      obtain ⟨f, hfk⟩ : ∃ f, fs[k]? = some f := ⟨_, List.getElem?_eq_getElem hlt⟩
      have c1 := HC.out.cell (hx k f hfk).1 (by simp)
      have c2 := HC.out.cell (hx k f hfk).2 (by simp)
      obtain ⟨hs1, hs2⟩ := hb.out.2.2 f (List.mem_of_getElem? hfk)
      have HS := Lib.hid (filter_succ (p := (keepM ks)) hfk)
      clear hx hfk
      obtain ⟨n, x⟩ := f
      dsimp only at c1 c2 hs1 hs2 HS
      have HB := Lib.hid (Blk.new wr [.string n, .string x] 36)
      have HC1 := Lib.hid (HC.out.alloc (.cells #[.string n, .string x] 36))
      have HO1 := Lib.hid (World.ownsRow.alloc HO.out (.cells #[.string n, .string x] 36))
      go_wp2_with fail
      refine ((lower_low n _ hs1)).mono ?_
      rintro e w2 ⟨rfl, H2⟩
      have HB2 := Lib.hid (HB.out.chg H2.out (by simp))
      have HC2 := Lib.hid (HC1.out.trans H2.out (by simp))
      have HO2 := Lib.hid (ownsRow_chg HO1.out H2.out)
      have c3 := HB2.out.cell 0 _ rfl
      have c4 := HB2.out.cell 1 _ rfl
      have hlk := (hm.out.chg HC2.out).look (low n) (by rw [low_size]; exact hs1)
      have HKM : Hid (keepM ks (n, x) = !memB (low n) ks) := Lib.hid rfl
      clear HB HC1 HO1 H2 HC HO
      generalize low n = ln at hlk HKM ⊢
      cases hmm : memB ln ks
      · rw [hmm] at hlk HKM
        have HE := Lib.hid (show (fs.take (k + 1)).filter (keepM ks) = (fs.take k).filter (keepM ks) ++ [(n, x)] by have := HS.out; rw [HKM.out] at this; simpa using this)
        rw [if_neg (by decide)] at hlk
        clear hmm
        obtain ⟨A, cp, rfl⟩ := row_form HO2.out
        have hal := filter_le ((keepM ks)) fs k
        have hsz2 := HC2.out.size
        go_wp2_with (at_builtin; refine wpList_append_own _ rfl _ _ 22 rfl w.heap.size 36 i0 (.agg #[.string ⟨#[]⟩, .string ⟨#[]⟩]) 2 32 Tryd.underlying22 HI.out.1 HI.out.2.1 HI.out.2.2.1 HI.out.2.2.2 rfl (by decide) (.slice A ((fs.take k).filter ((keepM ks))).length cp) ((fs.take k).filter ((keepM ks))).length (fcells ((fs.take k).filter ((keepM ks)))) rfl (World.ownsRow.alloc HO2.out _) ⟨w2.heap.size, 0, none⟩ 1 1 [.string n, .string x] rfl rfl (cells_new _ _ _) (by simp [Value.oneCell']) (by unfold maxLen; omega) (by omega) (by simp; omega) ?_; intro v5 w5 hown hgrow _)
        have HC5 := Lib.hid (Chg.grownOwn (HC2.out.alloc _) (World.ownsRow.alloc HO2.out _) (Nat.le_refl _) hgrow)
        have HO5 := Lib.hid (OwnF.push hown)
        clear hown hgrow
        go_roundw
        case rel => exact ⟨k + 1, by go_num, by omega, Lib.hid (by rw [HE.out]; exact HO5.out), HC5⟩
        case measure => simp [intOf]; omega
      · rw [hmm] at hlk HKM
        have HE := Lib.hid (show (fs.take (k + 1)).filter (keepM ks) = (fs.take k).filter (keepM ks) by have := HS.out; rw [HKM.out] at this; simpa using this)
        rw [if_pos rfl] at hlk
        clear hmm
        go_wp2
        go_roundw
        case rel => exact ⟨k + 1, by go_num, by omega, Lib.hid (by rw [HE.out]; exact HO2.out), HC2⟩
        case measure => simp [intOf]; omega
    · obtain rfl : k = fs.length := by omega
      rw [List.take_length] at HO
      go_wp2
      go_ret
      exact ⟨_, rfl, HO, HC⟩
def dropF (name : ByteArray) (f : Fd) : Bool := !sameB f.1 name
def dropB (fs : List Fd) (name : ByteArray) : List Fd := fs.filter (dropF name)
set_option maxHeartbeats 8000000 in
set_option maxRecDepth 100000 in
theorem rdrop_any (v : Value) (fs : List Fd) (name : ByteArray) (w : World) (hf : Hid (Flds w v fs)) (hb : Hid (BdF fs)) (hn : name.size ≤ 1048576) :
    Calls Tryd.prog 29 #[v, .string name] w fun e w' => ∃ r, e = .returned r ∧ Hid (OwnF w.heap.size w' r (dropB fs name)) ∧ Hid (Chg [] w w') := by
  obtain ⟨i0, hi, hz0, hz1, hz2⟩ := info_parts info36
  have HI := Lib.hid (And.intro hi (And.intro hz0 (And.intro hz1 hz2)))
  clear hi hz0 hz1 hz2
  obtain ⟨a, cap, rfl, hcap, hr⟩ := hf.out
  have HR := Lib.hid hr
  have hlen : fs.length ≤ 2000000 := hb.out.1
  clear hr
  go_enter Tryd.func29, Tryd.ntmps29
  go_wp2
  go_loopw [5, 10] (fun r i wr => ∃ k : Nat, i = .int .i64 k ∧ k ≤ fs.length ∧ Hid (OwnF w.heap.size wr r ((fs.take k).filter (dropF name))) ∧ Hid (Chg [] w wr)) (fun _ i _ => fs.length - (intOf i).toNat)
  case atStart => exact ⟨0, rfl, by omega, Lib.hid (OwnF.nil _ _), Chg.refl _ _⟩
  case round =>
    obtain ⟨k, rfl, hk, HO, HC⟩ := hrel
    by_cases hlt : k < fs.length
    · skip
      obtain ⟨b, o, rfl, hbs, hx⟩ := HR.out (by omega)
      obtain ⟨f, hfk⟩ : ∃ f, fs[k]? = some f := ⟨_, List.getElem?_eq_getElem hlt⟩
      have c1 := HC.out.cell (hx k f hfk).1 (by simp)
      have c2 := HC.out.cell (hx k f hfk).2 (by simp)
      obtain ⟨hs1, hs2⟩ := hb.out.2.2 f (List.mem_of_getElem? hfk)
      have HS := Lib.hid (filter_succ (p := (dropF name)) hfk)
      clear hx hfk
      obtain ⟨n, x⟩ := f
      dsimp only at c1 c2 hs1 hs2 HS
      have HB := Lib.hid (Blk.new wr [.string n, .string x] 36)
      have HC1 := Lib.hid (HC.out.alloc (.cells #[.string n, .string x] 36))
      have HO1 := Lib.hid (World.ownsRow.alloc HO.out (.cells #[.string n, .string x] 36))
      go_wp2_with fail
      refine ((rsame_any n name _ hs1 hn (sameB n name) rfl)).mono ?_
      rintro e w2 ⟨rfl, H2⟩
      have HB2 := Lib.hid (HB.out.chg H2.out (by simp))
      have HC2 := Lib.hid (HC1.out.trans H2.out (by simp))
      have HO2 := Lib.hid (ownsRow_chg HO1.out H2.out)
      have c3 := HB2.out.cell 0 _ rfl
      have c4 := HB2.out.cell 1 _ rfl
      have HKM : Hid (dropF name (n, x) = !sameB n name) := Lib.hid rfl
      clear HB HC1 HO1 H2 HC HO
      cases hmm : sameB n name
      · rw [hmm] at HKM
        have HE := Lib.hid (show (fs.take (k + 1)).filter (dropF name) = (fs.take k).filter (dropF name) ++ [(n, x)] by have := HS.out; rw [HKM.out] at this; simpa using this)
        clear hmm
        obtain ⟨A, cp, rfl⟩ := row_form HO2.out
        have hal := filter_le ((dropF name)) fs k
        have hsz2 := HC2.out.size
        go_wp2_with (at_builtin; refine wpList_append_own _ rfl _ _ 22 rfl w.heap.size 36 i0 (.agg #[.string ⟨#[]⟩, .string ⟨#[]⟩]) 2 32 Tryd.underlying22 HI.out.1 HI.out.2.1 HI.out.2.2.1 HI.out.2.2.2 rfl (by decide) (.slice A ((fs.take k).filter ((dropF name))).length cp) ((fs.take k).filter ((dropF name))).length (fcells ((fs.take k).filter ((dropF name)))) rfl (World.ownsRow.alloc HO2.out _) ⟨w2.heap.size, 0, none⟩ 1 1 [.string n, .string x] rfl rfl (cells_new _ _ _) (by simp [Value.oneCell']) (by unfold maxLen; omega) (by omega) (by simp; omega) ?_; intro v5 w5 hown hgrow _)
        have HC5 := Lib.hid (Chg.grownOwn (HC2.out.alloc _) (World.ownsRow.alloc HO2.out _) (Nat.le_refl _) hgrow)
        have HO5 := Lib.hid (OwnF.push hown)
        clear hown hgrow
        go_roundw
        case rel => exact ⟨k + 1, by go_num, by omega, Lib.hid (by rw [HE.out]; exact HO5.out), HC5⟩
        case measure => simp [intOf]; omega
      · rw [hmm] at HKM
        have HE := Lib.hid (show (fs.take (k + 1)).filter (dropF name) = (fs.take k).filter (dropF name) by have := HS.out; rw [HKM.out] at this; simpa using this)
        clear hmm
        go_wp2
        go_roundw
        case rel => exact ⟨k + 1, by go_num, by omega, Lib.hid (by rw [HE.out]; exact HO2.out), HC2⟩
        case measure => simp [intOf]; omega
    · obtain rfl : k = fs.length := by omega
      rw [List.take_length] at HO
      go_wp2
      go_ret
      exact ⟨_, rfl, HO, HC⟩
theorem memB_nil (x : ByteArray) : memB x [] = false := rfl
theorem same_low (a b : ByteArray) : sameB a b = decide (low b = low a) := by
  unfold sameB
  rw [ByteArray.toList_eq, ByteArray.toList_eq]
  by_cases h : low b = low a
  · rw [h, decide_eq_true rfl, decide_eq_true rfl]
  · rw [decide_eq_false h, decide_eq_false (fun e => h (Go.WideShapes.bytes_inj e).symm)]
theorem keep_drop (name : ByteArray) : keepM [low name] = dropF name := by
  funext f
  unfold keepM dropF
  rw [memB_cons, memB_nil, Bool.or_false, same_low]
set_option maxHeartbeats 8000000 in
theorem drop_any (v : Value) (fs : List Fd) (name : ByteArray) (w : World) (hf : Hid (Flds w v fs)) (hb : Hid (BdF fs)) (hn : name.size ≤ 1048576) :
    Calls Tryd.prog 28 #[v, .string name] w fun e w' => ∃ r, e = .returned r ∧ Hid (OwnF w.heap.size w' r (dropB fs name)) ∧ Hid (Chg [] w w') := by
  have hmm := @run_makeMap Tryd.prog
  have HM := Lib.hid (OwnM.new w)
  have HC := Lib.hid ((Chg.refl [] w).alloc (.map #[] 0))
  go_enter Tryd.func28, Tryd.ntmps28
  go_wp2_with fail
  refine (lower_low name _ hn).mono ?_
  rintro e w2 ⟨rfl, H2⟩
  obtain ⟨w3, hrun, HM3, hg⟩ := (HM.out.chg H2.out).put (low name) (by rw [low_size]; exact hn) (by omega)
  have HC2 := Lib.hid (HC.out.trans H2.out (by simp))
  have HC3 := Lib.hid (HC2.out.grown hg (fun k hk hlt => by injection hk with hk; omega))
  have HM4 := Lib.hid HM3
  have HKD : Hid (fs.filter (keepM [low name]) = dropB fs name) := Lib.hid (by unfold dropB; rw [keep_drop])
  clear HM3 hg
  generalize low name = ln at hrun HM4 HKD ⊢
  go_wp2_with fail
  refine (without_any v fs w.heap.size 1 [ln] w3 (Lib.hid (hf.out.chg HC3.out)) hb HM4).mono ?_
  rintro e w4 ⟨r, rfl, HR, HC4⟩
  rw [HKD.out] at HR
  go_wp2_with fail
  go_ret
  exact ⟨_, rfl, Lib.hid (HR.out.lower HC3.out.size), HC3.out.trans HC4.out (by simp)⟩
end Go.Proofs.YtiimofejcakgoaaDoor
