/- Layer 7 (fields): Strip, both sides. -/
import Derived.Test.YtiimofejcakgoaaDoorF8
namespace Go.Proofs.YtiimofejcakgoaaDoor
open Go.RowKit Go.ChangeShapes Go.WideShapes Go.Maps Go.WideMaps
set_option linter.unusedVariables false

theorem lowB_idem (c : UInt8) : lowB (lowB c) = lowB c := by
  unfold lowB
  split
  · rename_i h
    rw [if_neg]
    intro k
    have e : (c + 32).toNat = c.toNat + 32 := by
      rw [UInt8.toNat_add]
      have : (32 : UInt8).toNat = 32 := rfl
      rw [this]
      omega
    omega
  · rfl
theorem low_low (s : ByteArray) : low (low s) = low s := by
  unfold low
  congr 2
  show List.map lowB (s.data.toList.map lowB) = _
  rw [List.map_map]
  exact List.map_congr_left (fun c _ => lowB_idem c)
def conn : ByteArray := ⟨#[99, 111, 110, 110, 101, 99, 116, 105, 111, 110]⟩
def six : List ByteArray := [conn, ⟨#[107, 101, 101, 112, 45, 97, 108, 105, 118, 101]⟩, ⟨#[112, 114, 111, 120, 121, 45, 99, 111, 110, 110, 101, 99, 116, 105, 111, 110]⟩, ⟨#[116, 101]⟩, ⟨#[116, 114, 97, 110, 115, 102, 101, 114, 45, 101, 110, 99, 111, 100, 105, 110, 103]⟩, ⟨#[117, 112, 103, 114, 97, 100, 101]⟩]
theorem six_low : ∀ x, x ∈ six → low x = x := by
  intro x hx
  simp only [six, conn, List.mem_cons, List.not_mem_nil, or_false] at hx
  rcases hx with rfl | rfl | rfl | rfl | rfl | rfl <;> rfl
theorem six_size : ∀ x, x ∈ six → x.size ≤ 1048576 := by
  intro x hx
  simp only [six, conn, List.mem_cons, List.not_mem_nil, or_false] at hx
  rcases hx with rfl | rfl | rfl | rfl | rfl | rfl <;> decide
theorem items_low (fs : List Fd) (name x : ByteArray) (h : x ∈ itemsB fs name) : low x = x := by
  unfold itemsB itL at h
  obtain ⟨v, _, h⟩ := List.mem_flatMap.1 h
  obtain ⟨y, _, rfl⟩ := List.mem_map.1 h
  exact low_low y
theorem items_size (fs : List Fd) (name x : ByteArray) (hb : BdF fs) (h : x ∈ itemsB fs name) : x.size ≤ 1048576 := by
  unfold itemsB itL at h
  obtain ⟨v, hv, h⟩ := List.mem_flatMap.1 h
  obtain ⟨y, hy, rfl⟩ := List.mem_map.1 h
  rw [low_size]
  exact Nat.le_trans (listB_size v y hy) (allB_size fs name hb v hv)
theorem keepM_congr {ks ks' : List ByteArray} (h : ∀ x, x ∈ ks ↔ x ∈ ks') : keepM ks = keepM ks' := by
  funext f
  unfold keepM
  congr 1
  rw [Bool.eq_iff_iff, memB_iff, memB_iff]
  exact h _
theorem keep_snoc (fs : List Fd) (ks : List ByteArray) (x : ByteArray) (hx : low x = x) : dropB (fs.filter (keepM ks)) x = fs.filter (keepM (ks ++ [x])) := by
  unfold dropB
  rw [List.filter_filter]
  congr 1
  funext f
  unfold dropF keepM
  rw [same_low, hx, show memB (low f.1) (ks ++ [x]) = (memB (low f.1) ks || memB (low f.1) [x]) from List.any_append, memB_cons, memB_nil, Bool.or_false]
  cases memB (low f.1) ks <;> cases decide (x = low f.1) <;> rfl
theorem lensF_filter (p : Fd → Bool) (fs : List Fd) : lensF (fs.filter p) ≤ lensF fs := by
  unfold lensF
  induction fs with
  | nil => simp
  | cons f fs ih =>
    rw [List.filter_cons]
    split
    · simp only [List.map_cons, List.sum_cons]
      omega
    · simp only [List.map_cons, List.sum_cons]
      omega
theorem BdF.filter {fs : List Fd} (h : BdF fs) (p : Fd → Bool) : BdF (fs.filter p) :=
  ⟨Nat.le_trans (List.length_filter_le _ _) h.1, Nat.le_trans (lensF_filter p fs) h.2.1, fun f hf => h.2.2 f (List.mem_filter.1 hf).1⟩
def stripB (fs : List Fd) : List Fd := fs.filter (keepM (itemsB fs conn ++ six))
theorem OwnM.chgAt {F : List Nat} {w w' : World} {b n : Nat} {ks : List ByteArray} (h : OwnM w b n ks) (hc : Chg F w w') (hb : b ∉ F) : OwnM w' b n ks := by
  obtain ⟨D, ⟨es, clock, hh, r⟩, ha⟩ := h
  exact ⟨D, ⟨es, clock, by rw [hc.block b (Array.getElem?_eq_some_iff.1 hh).1 hb]; exact hh, r⟩, ha⟩
set_option maxHeartbeats 8000000 in
set_option maxRecDepth 100000 in
theorem strip_any (v : Value) (fs : List Fd) (w : World) (hf : Hid (Flds w v fs)) (hb : Hid (BdF fs)) :
    Calls Tryd.prog 20 #[v] w fun e w' => ∃ r, e = .returned r ∧ Hid (Flds w' r (stripB fs)) ∧ Hid (Chg [] w w') := by
  have hmm := @run_makeMap Tryd.prog
  have HM0 := Lib.hid (OwnM.new w)
  have HC0 := Lib.hid ((Chg.refl [] w).alloc (.map #[] 0))
  have HB := Lib.hid (show w.heap.size ≤ w.heap.size from Nat.le_refl _)
  obtain ⟨w1, hr1, HM1, hg1⟩ := HM0.out.put conn (by decide) (by omega)
  obtain ⟨w2, hr2, HM2, hg2⟩ := HM1.put ⟨#[107, 101, 101, 112, 45, 97, 108, 105, 118, 101]⟩ (by decide) (by omega)
  obtain ⟨w3, hr3, HM3, hg3⟩ := HM2.put ⟨#[112, 114, 111, 120, 121, 45, 99, 111, 110, 110, 101, 99, 116, 105, 111, 110]⟩ (by decide) (by omega)
  obtain ⟨w4, hr4, HM4, hg4⟩ := HM3.put ⟨#[116, 101]⟩ (by decide) (by omega)
  obtain ⟨w5, hr5, HM5, hg5⟩ := HM4.put ⟨#[116, 114, 97, 110, 115, 102, 101, 114, 45, 101, 110, 99, 111, 100, 105, 110, 103]⟩ (by decide) (by omega)
  obtain ⟨w6, hr6, HM6, hg6⟩ := HM5.put ⟨#[117, 112, 103, 114, 97, 100, 101]⟩ (by decide) (by omega)
  have hk : ∀ k, some w.heap.size = some k → k < w.heap.size → k ∈ ([] : List Nat) := fun k e hlt => by injection e with e; omega
  have HC6 := Lib.hid ((((((HC0.out.grown hg1 hk).grown hg2 hk).grown hg3 hk).grown hg4 hk).grown hg5 hk).grown hg6 hk)
  have HMS := Lib.hid HM6
  clear HM1 HM2 HM3 HM4 HM5 HM6 hg1 hg2 hg3 hg4 hg5 hg6 hk
  unfold conn at hr1
  go_enter Tryd.func20, Tryd.ntmps20
  go_wp2_with fail
  refine (items_any v fs conn w6 (Lib.hid (hf.out.chg HC6.out)) hb (by decide)).mono ?_
  rintro e w7 ⟨r, rfl, HR, HC7⟩
  have HVB := Lib.hid (items_size fs conn · hb.out)
  have hvl := items_len fs conn hb.out
  have HEND : Hid (stripB fs = fs.filter (keepM (itemsB fs conn ++ six))) := Lib.hid rfl
  generalize itemsB fs conn = vs at HR HVB HEND hvl
  have HM7 := Lib.hid (HMS.out.chg HC7.out)
  have HC8 := Lib.hid (HC6.out.trans HC7.out (by simp))
  have HLT : Hid (w.heap.size < w6.heap.size) := Lib.hid (by obtain ⟨D, ho, _⟩ := HMS.out; exact ho.lt)
  obtain ⟨A, cp, rfl⟩ := HR.out.form
  clear hr1 hr2 hr3 hr4 hr5 hr6 HMS HC7 HM0 HC0
  go_wp2_with fail
  go_loopw [11] (fun i wr => ∃ (k : Nat) (ks : List ByteArray), i = .int .i64 k ∧ k ≤ vs.length ∧ Hid (OwnM wr w.heap.size (6 + k) ks) ∧ Hid (∀ x, x ∈ ks ↔ x ∈ vs.take k ++ six) ∧ Hid (OwnS w6.heap.size wr (.slice A vs.length cp) vs) ∧ Hid (Chg [] w wr)) (fun i _ => vs.length - (intOf i).toNat)
  case atStart =>
    refine ⟨0, _, rfl, by omega, HM7, Lib.hid (fun x => ?_), HR, HC8⟩
    simp only [six, List.take_zero, List.nil_append, List.mem_cons, List.not_mem_nil, or_false]
    constructor
    · rintro (h | h | h | h | h | h)
      · exact .inr (.inr (.inr (.inr (.inr h))))
      · exact .inr (.inr (.inr (.inr (.inl h))))
      · exact .inr (.inr (.inr (.inl h)))
      · exact .inr (.inr (.inl h))
      · exact .inr (.inl h)
      · exact .inl h
    · rintro (h | h | h | h | h | h)
      · exact .inr (.inr (.inr (.inr (.inr h))))
      · exact .inr (.inr (.inr (.inr (.inl h))))
      · exact .inr (.inr (.inr (.inl h)))
      · exact .inr (.inr (.inl h))
      · exact .inr (.inl h)
      · exact .inl h
  case round =>
    obtain ⟨k, ks, rfl, hk, HM, HK, HR2, HC⟩ := hrel
    by_cases hlt : k < vs.length
    · obtain ⟨x, hx⟩ : ∃ x, vs[k]? = some x := ⟨_, List.getElem?_eq_getElem hlt⟩
      obtain ⟨g, cp2, he, hcp, hg, hcells⟩ := HR2.out.read (by omega)
      obtain ⟨rfl, rfl⟩ : A = some ⟨g, 0, none⟩ ∧ cp = cp2 := by injection he with h1 h2 h3; exact ⟨h1, h3⟩
      have c1 := hcells k x hx
      have hxs := HVB.out x (List.mem_of_getElem? hx)
      obtain ⟨w8, hrun, HM8, hg8⟩ := HM.out.put x hxs (by omega)
      have HM9 := Lib.hid HM8
      have HK9 := Lib.hid (show ∀ y, y ∈ x :: ks ↔ y ∈ vs.take (k + 1) ++ six from fun y => by
        rw [List.take_add_one, hx, List.mem_cons, HK.out y, List.mem_append, List.mem_append, List.mem_append]
        show _ ↔ (_ ∨ y ∈ [x]) ∨ _
        rw [List.mem_singleton]
        constructor
        · rintro (h | h | h)
          · exact .inl (.inr h)
          · exact .inl (.inl h)
          · exact .inr h
        · rintro ((h | h) | h)
          · exact .inr (.inl h)
          · exact .inl h
          · exact .inr (.inr h))
      have HR9 := Lib.hid (World.ownsRow.kept HR2.out hg8 (.inr (fun e => by
        have h1 := (World.ownsRow.lt HR2.out g rfl).1
        injection e with e
        have h2 := HLT.out
        simp at e
        omega)))
      have HC9 := Lib.hid (HC.out.grown hg8 (fun k e hlt => by injection e with e; omega))
      clear HM8 hg8 hcells he hx HM HK HC
      go_wp2
      go_roundw
      case rel => exact ⟨k + 1, _, by go_num, by omega, HM9, HK9, HR9, HC9⟩
      case measure => simp [intOf]; omega
    · obtain rfl : k = vs.length := by omega
      rw [List.take_length] at HK
      have HE := Lib.hid (show fs.filter (keepM ks) = stripB fs by rw [HEND.out, keepM_congr HK.out])
      go_wp2_with fail
      refine (without_any v fs w.heap.size _ ks wr (Lib.hid (hf.out.chg HC.out)) hb HM).mono ?_
      rintro e w9 ⟨o, rfl, HO, HC9⟩
      rw [HE.out] at HO
      go_wp2_with fail
      go_ret
      exact ⟨_, rfl, Lib.hid HO.out.flds, HC.out.trans HC9.out (by simp)⟩
theorem stripB_eq (fs : List Fd) : fs.filter (keepM (itemsB fs conn ++ six)) = stripB fs := rfl
theorem keepM_nil : keepM [] = fun _ => true := rfl
theorem filter_nil (fs : List Fd) : fs.filter (keepM []) = fs := by
  rw [keepM_nil]
  simp
theorem take_snoc {α : Type} {l : List α} {k : Nat} {x : α} (h : l[k]? = some x) : l.take (k + 1) = l.take k ++ [x] := by
  rw [List.take_add_one, h]
  rfl
set_option maxHeartbeats 8000000 in
set_option maxRecDepth 100000 in
theorem rstrip_any (v : Value) (fs : List Fd) (w : World) (hf : Hid (Flds w v fs)) (hb : Hid (BdF fs)) :
    Calls Tryd.prog 22 #[v] w fun e w' => ∃ r, e = .returned r ∧ Hid (Flds w' r (stripB fs)) ∧ Hid (Chg [] w w') := by
  go_enter Tryd.func22, Tryd.ntmps22
  go_wp2_with fail
  refine (ritems_any v fs conn w hf hb (by decide)).mono ?_
  rintro e w7 ⟨r, rfl, HR, HC7⟩
  have HVB := Lib.hid (items_size fs conn · hb.out)
  have HVL := Lib.hid (items_low fs conn)
  have hvl := items_len fs conn hb.out
  have HEND : Hid (stripB fs = fs.filter (keepM (itemsB fs conn ++ six))) := Lib.hid rfl
  generalize itemsB fs conn = vs at HR HVB HEND hvl HVL
  obtain ⟨A, cp, rfl⟩ := HR.out.form
  have HF7 := Lib.hid (hf.out.chg HC7.out)
  go_wp2_with fail
  go_loopw [3, 12] (fun o i wr => ∃ (k : Nat), i = .int .i64 k ∧ k ≤ vs.length ∧ Hid (Flds wr o (fs.filter (keepM (vs.take k)))) ∧ Hid (OwnS w.heap.size wr (.slice A vs.length cp) vs) ∧ Hid (Chg [] w wr)) (fun _ i _ => vs.length - (intOf i).toNat)
  case atStart => exact ⟨0, rfl, by omega, Lib.hid (by rw [List.take_zero, filter_nil]; exact HF7.out), HR, HC7⟩
  case round =>
    obtain ⟨k, rfl, hk, HO, HR2, HC⟩ := hrel
    by_cases hlt : k < vs.length
    · obtain ⟨x, hx⟩ : ∃ x, vs[k]? = some x := ⟨_, List.getElem?_eq_getElem hlt⟩
      obtain ⟨g, cp2, he, hcp, hg, hcells⟩ := HR2.out.read (by omega)
      obtain ⟨rfl, rfl⟩ : A = some ⟨g, 0, none⟩ ∧ cp = cp2 := by injection he with h1 h2 h3; exact ⟨h1, h3⟩
      have c1 := hcells k x hx
      have hxs := HVB.out x (List.mem_of_getElem? hx)
      have HK9 := Lib.hid (show dropB (fs.filter (keepM (vs.take k))) x = fs.filter (keepM (vs.take (k + 1))) by rw [keep_snoc _ _ _ (HVL.out x (List.mem_of_getElem? hx)), take_snoc hx])
      clear hcells he hx
      go_wp2_with fail
      refine (rdrop_any u3 _ x wr HO (Lib.hid (hb.out.filter _)) hxs).mono ?_
      rintro e w8 ⟨o8, rfl, HO8, HC8⟩
      rw [HK9.out] at HO8
      have HF8 := Lib.hid HO8.out.flds
      have HR8 := Lib.hid (HR2.out.chg HC8.out)
      have HC9 := Lib.hid (HC.out.trans HC8.out (by simp))
      clear HO HR2 HC HO8 HC8
      go_wp2
      go_roundw
      case rel => exact ⟨k + 1, by go_num, by omega, HF8, HR8, HC9⟩
      case measure => simp [intOf]; omega
    · obtain rfl : k = vs.length := by omega
      rw [List.take_length] at HO
      have hl6 : six.length = 6 := rfl
      have HS6 : Hid (∀ (j : Nat) (x : ByteArray), six[j]? = some x → (wr.alloc (.cells (six.map Value.string).toArray 9)).cell? ⟨wr.heap.size, j, none⟩ = some (.string x)) := Lib.hid (fun j x hj => (Blk.new wr (six.map Value.string) 9).cell j _ (by rw [List.getElem?_map, hj]; rfl))
      have HCA := Lib.hid (HC.out.alloc (.cells (six.map Value.string).toArray 9))
      have HFA := Lib.hid (HO.out.chg ((Chg.refl [] wr).alloc (.cells (six.map Value.string).toArray 9)))
      have HX6 := Lib.hid six_low
      have HY6 := Lib.hid six_size
      go_wp2_with fail
      go_loopw [3, 22] (fun o i wx => ∃ (j : Nat), i = .int .i64 j ∧ j ≤ 6 ∧ Hid (Flds wx o (fs.filter (keepM (vs ++ six.take j)))) ∧ Hid (∀ (j : Nat) (x : ByteArray), six[j]? = some x → wx.cell? ⟨wr.heap.size, j, none⟩ = some (.string x)) ∧ Hid (Chg [] w wx)) (fun _ i _ => 6 - (intOf i).toNat)
      case atStart => exact ⟨0, rfl, by omega, Lib.hid (by rw [List.take_zero, List.append_nil]; exact HFA.out), HS6, HCA⟩
      case round =>
        obtain ⟨j, rfl, hj, HO2, HS, HC2⟩ := hrel
        by_cases hjl : j < 6
        · obtain ⟨x, hx⟩ : ∃ x, six[j]? = some x := ⟨_, List.getElem?_eq_getElem (by rw [hl6]; exact hjl)⟩
          have c1 := HS.out j x hx
          have hxs := HY6.out x (List.mem_of_getElem? hx)
          have HK9 := Lib.hid (show dropB (fs.filter (keepM (vs ++ six.take j))) x = fs.filter (keepM (vs ++ six.take (j + 1))) by rw [keep_snoc _ _ _ (HX6.out x (List.mem_of_getElem? hx)), take_snoc hx, List.append_assoc])
          have hjl2 : (j : Int) < 6 := by omega
          clear hx
          go_wp2_with fail
          refine (rdrop_any u3 _ x wr HO2 (Lib.hid (hb.out.filter _)) hxs).mono ?_
          rintro e w8 ⟨o8, rfl, HO8, HC8⟩
          rw [HK9.out] at HO8
          have HF8 := Lib.hid HO8.out.flds
          have HS8 := Lib.hid (fun (j : Nat) (x : ByteArray) hj => HC8.out.cell (HS.out j x hj) (by simp))
          have HC9 := Lib.hid (HC2.out.trans HC8.out (by simp))
          clear HO2 HS HC2 HO8 HC8
          go_wp2
          go_roundw
          case rel => exact ⟨j + 1, by go_num, by omega, HF8, HS8, HC9⟩
          case measure => simp [intOf]; omega
        · obtain rfl : j = 6 := by omega
          have HE := Lib.hid (show fs.filter (keepM (vs ++ six.take 6)) = stripB fs by rw [HEND.out]; rfl)
          rw [HE.out] at HO2
          go_wp2
          go_ret
          exact ⟨_, rfl, HO2, HC2⟩
end Go.Proofs.YtiimofejcakgoaaDoor
