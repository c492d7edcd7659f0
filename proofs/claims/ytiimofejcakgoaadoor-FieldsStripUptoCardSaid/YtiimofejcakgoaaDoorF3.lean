/- Layer 7 (fields): Has, Get, both sides; equal lists. -/
import Derived.Test.YtiimofejcakgoaaDoorF2
namespace Go.Proofs.YtiimofejcakgoaaDoor
open Go.RowKit Go.ChangeShapes Go.WideShapes
set_option linter.unusedVariables false

def memB (x : ByteArray) (ts : List ByteArray) : Bool := ts.any (fun y => decide (y = x))
theorem memB_iff (x : ByteArray) (ts : List ByteArray) : memB x ts = true ↔ x ∈ ts := by
  unfold memB
  rw [List.any_eq_true]
  constructor
  · rintro ⟨y, hy, e⟩
    rw [← of_decide_eq_true e]
    exact hy
  · intro h
    exact ⟨x, h, decide_eq_true rfl⟩
def hasB (fs : List Fd) (name item : ByteArray) : Bool := memB (low item) (itemsB fs name)
theorem contains_dec (ts : List ByteArray) (x : ByteArray) : Lib.containsS ts x = memB x ts := by
  rw [Bool.eq_iff_iff, Lib.containsS_iff, memB_iff]
/-- slices.Contains at a slice of one's own. -/
theorem contains_own (B : Nat) (v : Value) (ts : List ByteArray) (x : ByteArray) (w : World) (h : OwnS B w v ts) (hl : ts.length ≤ 9223372036854775807) :
    Calls Tryd.prog 39 #[v, .string x] w fun e w' => e = .returned (.bool (memB x ts)) ∧ w' = w := by
  by_cases h0 : ts.length = 0
  · obtain ⟨A, cp, rfl⟩ := h.form
    have : ts = [] := List.eq_nil_of_length_eq_zero h0
    subst this
    exact Tryd.slices_Contains_string_empty A cp x w
  · obtain ⟨g, cp, rfl, _, _, hc⟩ := h.read (by omega)
    have := Tryd.slices_Contains_string g 0 ts.length cp ts x w (Nat.le_refl _) hl (fun j hj => by
      rw [Nat.zero_add]
      refine hc j _ ?_
      rw [List.getD_eq_getElem?_getD, List.getElem?_eq_getElem hj]
      rfl)
    rw [List.take_length, contains_dec] at this
    exact this
theorem items_len (fs : List Fd) (name : ByteArray) (hb : BdF fs) : (itemsB fs name).length ≤ 4000000 := by
  have h1 := itL_len (allB fs name)
  have h2 := wtS_all fs name
  have h3 := hb.1
  have h4 := hb.2.1
  unfold itemsB
  omega
set_option maxHeartbeats 8000000 in
theorem has_any (v : Value) (fs : List Fd) (name item : ByteArray) (w : World) (hf : Hid (Flds w v fs)) (hb : Hid (BdF fs)) (hn : name.size ≤ 1048576) (hi : item.size ≤ 1048576) :
    Calls Tryd.prog 17 #[v, .string name, .string item] w fun e w' => e = .returned (.bool (hasB fs name item)) ∧ Hid (Chg [] w w') := by
  go_enter Tryd.func17, Tryd.ntmps17
  go_wp2_with fail
  refine (items_any v fs name w hf hb hn).mono ?_
  rintro e w1 ⟨r, rfl, HR, HC1⟩
  go_wp2_with fail
  refine (lower_low item _ hi).mono ?_
  rintro e w2 ⟨rfl, HC2⟩
  have HR2 := Lib.hid (HR.out.chg HC2.out)
  go_wp2_with fail
  refine (contains_own _ r _ (low item) _ HR2.out (by have := items_len fs name hb.out; omega)).mono ?_
  rintro e w3 ⟨rfl, rfl⟩
  have hE : memB (low item) (itemsB fs name) = hasB fs name item := rfl
  rw [hE]
  clear hE
  go_wp2_with fail
  go_ret
  exact ⟨rfl, HC1.out.trans HC2.out (by simp)⟩
theorem eqB (a b : ByteArray) : (a.toList == b.toList) = decide (a = b) := by
  rw [ByteArray.toList_eq, ByteArray.toList_eq, beq_eq_decide]
  by_cases h : a = b
  · rw [h, decide_eq_true rfl, decide_eq_true rfl]
  · rw [decide_eq_false h, decide_eq_false (fun e => h (Go.WideShapes.bytes_inj e))]
set_option maxHeartbeats 8000000 in
set_option maxRecDepth 100000 in
theorem rhas_any (v : Value) (fs : List Fd) (name item : ByteArray) (w : World) (hf : Hid (Flds w v fs)) (hb : Hid (BdF fs)) (hn : name.size ≤ 1048576) (hi : item.size ≤ 1048576) :
    Calls Tryd.prog 18 #[v, .string name, .string item] w fun e w' => e = .returned (.bool (hasB fs name item)) ∧ Hid (Chg [] w w') := by
  go_enter Tryd.func18, Tryd.ntmps18
  go_wp2_with fail
  refine (ritems_any v fs name w hf hb hn).mono ?_
  rintro e w1 ⟨r, rfl, HR, HC1⟩
  have HE : Hid (hasB fs name item = memB (low item) (itemsB fs name)) := Lib.hid rfl
  have hvl := items_len fs name hb.out
  generalize itemsB fs name = vs at HR HE hvl
  obtain ⟨A, cp, rfl⟩ := HR.out.form
  go_wp2_with fail
  go_loopw [13] (fun i wr => ∃ k : Nat, i = .int .i64 k ∧ k ≤ vs.length ∧ Hid (∀ j x, j < k → vs[j]? = some x → x ≠ low item) ∧ Hid (Chg [] w1 wr)) (fun i _ => vs.length - (intOf i).toNat)
  case atStart => exact ⟨0, rfl, by omega, Lib.hid (fun j x hj => by omega), Chg.refl _ _⟩
  case round =>
    obtain ⟨k, rfl, hk, HN, HC⟩ := hrel
    have HR2 := Lib.hid (HR.out.chg HC.out)
    by_cases hlt : k < vs.length
    · obtain ⟨x, hx⟩ : ∃ x, vs[k]? = some x := ⟨_, List.getElem?_eq_getElem hlt⟩
      obtain ⟨g, cp2, he, hcp, hg, hcells⟩ := HR2.out.read (by omega)
      obtain ⟨rfl, rfl⟩ : A = some ⟨g, 0, none⟩ ∧ cp = cp2 := by injection he with h1 h2 h3; exact ⟨h1, h3⟩
      have c1 := hcells k x hx
      have HX := Lib.hid hx
      clear hcells he hx
      go_wp2_with fail
      refine (rlower_low item _ hi).mono ?_
      rintro e w2 ⟨rfl, HC2⟩
      have HC3 := Lib.hid (HC1.out.trans (HC.out.trans HC2.out (by simp)) (by simp))
      have HC4 := Lib.hid (HC.out.trans HC2.out (by simp))
      have heq := eqB x (low item)
      by_cases hxe : x = low item
      · rw [decide_eq_true hxe] at heq
        have HM := Lib.hid (show hasB fs name item = true by rw [HE.out, ← hxe]; exact (memB_iff _ _).2 (List.mem_of_getElem? HX.out))
        clear hxe
        generalize low item = y at heq ⊢
        go_wp2
        go_ret
        exact ⟨by rw [HM.out]; rfl, HC3.out⟩
      · rw [decide_eq_false hxe] at heq
        have HN2 := Lib.hid (show ∀ j x, j < k + 1 → vs[j]? = some x → x ≠ low item from fun j z hj hz => by
          rcases Nat.lt_or_ge j k with h | h
          · exact HN.out j z h hz
          · obtain rfl : j = k := by omega
            rw [HX.out] at hz
            injection hz with hz
            rw [← hz]; exact hxe)
        clear hxe HN
        go_wp2
        go_roundw
        case rel => exact ⟨k + 1, by go_num, by omega, HN2, HC4⟩
        case measure => simp [intOf]; omega
    · obtain rfl : k = vs.length := by omega
      have HM := Lib.hid (show hasB fs name item = false by
        rw [HE.out]
        refine Bool.eq_false_iff.2 (fun hm => ?_)
        rw [memB_iff] at hm
        obtain ⟨j, hj, e⟩ := List.getElem_of_mem hm
        exact HN.out j _ hj (by rw [List.getElem?_eq_getElem hj, e]) rfl)
      go_wp2
      go_ret
      exact ⟨by rw [HM.out]; rfl, HC1.out.trans HC.out (by simp)⟩
end Go.Proofs.YtiimofejcakgoaaDoor
