/- Layer 7 (fields): Check, both sides. -/
import Derived.Test.YtiimofejcakgoaaDoorF5
namespace Go.Proofs.YtiimofejcakgoaaDoor
open Go.RowKit Go.ChangeShapes Go.WideShapes
set_option linter.unusedVariables false

def fieldE (n v : ByteArray) : Int := if tokB n = false then 70 else if valB v = false then 71 else 0
def checkL : List Fd → Int
  | [] => 0
  | f :: l => if fieldE f.1 f.2 = 0 then checkL l else fieldE f.1 f.2
def checkB (fs : List Fd) : Int := if 100 < fs.length then 2 else checkL fs
theorem checkL_step {fs : List Fd} {k : Nat} {f : Fd} (h : fs[k]? = some f) : checkL (fs.drop k) = if fieldE f.1 f.2 = 0 then checkL (fs.drop (k + 1)) else fieldE f.1 f.2 := by
  have hk := (List.getElem?_eq_some_iff.1 h).1
  have e : f = fs[k] := (List.getElem?_eq_some_iff.1 h).2.symm
  rw [List.drop_eq_getElem_cons hk, ← e]
  rfl
theorem field_any (n v : ByteArray) (w : World) (hn : n.size ≤ 1048576) (hv : v.size ≤ 1048576) :
    Calls Tryd.prog 31 #[.string n, .string v] w fun e w' => e = .returned (.int .i64 (fieldE n v)) ∧ Hid (Chg [] w w') := by
  have HE : Hid (fieldE n v = if tokB n = false then 70 else if valB v = false then 71 else 0) := Lib.hid rfl
  go_enter Tryd.func31, Tryd.ntmps31
  go_wp2_with fail
  refine (token_any n _ hn).mono ?_
  rintro e w1 ⟨rfl, H1⟩
  cases h1 : tokB n
  · rw [h1] at HE
    go_wp2_with fail
    go_ret
    exact ⟨by rw [HE.out]; rfl, H1.out⟩
  · rw [h1] at HE
    go_wp2_with fail
    refine (value_any v _ hv).mono ?_
    rintro e w2 ⟨rfl, H2⟩
    have HC := Lib.hid (H1.out.trans H2.out (by simp))
    cases h2 : valB v
    · rw [h2] at HE
      go_wp2_with fail
      go_ret
      exact ⟨by rw [HE.out]; rfl, HC.out⟩
    · rw [h2] at HE
      go_wp2_with fail
      go_ret
      exact ⟨by rw [HE.out]; rfl, HC.out⟩
theorem fieldE_cases (n v : ByteArray) : fieldE n v = 0 ∨ fieldE n v = 70 ∨ fieldE n v = 71 := by
  unfold fieldE
  split
  · exact .inr (.inl rfl)
  · split
    · exact .inr (.inr rfl)
    · exact .inl rfl
set_option maxHeartbeats 8000000 in
set_option maxRecDepth 100000 in
theorem check_any (v : Value) (fs : List Fd) (w : World) (hf : Hid (Flds w v fs)) (hb : Hid (BdF fs)) :
    Calls Tryd.prog 10 #[v] w fun e w' => e = .returned (.int .i64 (checkB fs)) ∧ Hid (Chg [] w w') := by
  obtain ⟨a, cap, rfl, hcap, hr⟩ := hf.out
  have HR := Lib.hid hr
  have hlen : fs.length ≤ 2000000 := hb.out.1
  clear hr
  by_cases hbig : (100 : Int) < (fs.length : Int)
  · have HE := Lib.hid (show checkB fs = 2 by unfold checkB; rw [if_pos (by omega)])
    go_enter Tryd.func10, Tryd.ntmps10
    go_wp2
    go_ret
    exact ⟨by rw [HE.out]; rfl, by first | exact Chg.refl _ _ | rfl⟩
  · have HE := Lib.hid (show checkB fs = checkL (fs.drop 0) by unfold checkB; rw [if_neg (by omega)]; rfl)
    go_enter Tryd.func10, Tryd.ntmps10
    go_wp2
    go_loopw [11] (fun i wr => ∃ k : Nat, i = .int .i64 k ∧ k ≤ fs.length ∧ Hid (checkB fs = checkL (fs.drop k)) ∧ Hid (Chg [] w wr)) (fun i _ => fs.length - (intOf i).toNat)
    case atStart => exact ⟨0, rfl, by omega, HE, Chg.refl _ _⟩
    case round =>
      obtain ⟨k, rfl, hk, HL, HC⟩ := hrel
      by_cases hlt : k < fs.length
      · obtain ⟨b, o, rfl, hbs, hx⟩ := HR.out (by omega)
        obtain ⟨f, hfk⟩ : ∃ f, fs[k]? = some f := ⟨_, List.getElem?_eq_getElem hlt⟩
        have c1 := HC.out.cell (hx k f hfk).1 (by simp)
        have c2 := HC.out.cell (hx k f hfk).2 (by simp)
        obtain ⟨hs1, hs2⟩ := hb.out.2.2 f (List.mem_of_getElem? hfk)
        have HS := Lib.hid (HL.out.trans (checkL_step hfk))
        clear hx hfk
        obtain ⟨n, x⟩ := f
        dsimp only at c1 c2 hs1 hs2 HS
        have HC1 := Lib.hid (HC.out.alloc (.cells #[.string n, .string x] 36))
        go_wp2_with fail
        refine (field_any n x _ hs1 hs2).mono ?_
        rintro e w2 ⟨rfl, H2⟩
        have HC2 := Lib.hid (HC1.out.trans H2.out (by simp))
        rcases fieldE_cases n x with h | h | h
        · rw [h] at HS
          rw [if_pos rfl] at HS
          rw [h]
          go_wp2
          go_roundw
          case rel => exact ⟨k + 1, by go_num, by omega, HS, HC2⟩
          case measure => simp [intOf]; omega
        · rw [h, if_neg (by decide)] at HS
          rw [h]
          go_wp2
          go_ret
          exact ⟨by rw [HS.out]; rfl, HC2.out⟩
        · rw [h, if_neg (by decide)] at HS
          rw [h]
          go_wp2
          go_ret
          exact ⟨by rw [HS.out]; rfl, HC2.out⟩
      · obtain rfl : k = fs.length := by omega
        have HZ := Lib.hid (show checkB fs = 0 by rw [HL.out, List.drop_length]; rfl)
        go_wp2
        go_ret
        exact ⟨by rw [HZ.out]; rfl, HC.out⟩
set_option maxHeartbeats 8000000 in
set_option maxRecDepth 100000 in
theorem rcheck_any (v : Value) (fs : List Fd) (w : World) (hf : Hid (Flds w v fs)) (hb : Hid (BdF fs)) :
    Calls Tryd.prog 11 #[v] w fun e w' => e = .returned (.int .i64 (checkB fs)) ∧ Hid (Chg [] w w') := by
  obtain ⟨a, cap, rfl, hcap, hr⟩ := hf.out
  have HR := Lib.hid hr
  have hlen : fs.length ≤ 2000000 := hb.out.1
  clear hr
  by_cases hbig : (100 : Int) < (fs.length : Int)
  · have HE := Lib.hid (show checkB fs = 2 by unfold checkB; rw [if_pos (by omega)])
    go_enter Tryd.func11, Tryd.ntmps11
    go_wp2
    go_ret
    exact ⟨by rw [HE.out]; rfl, by first | exact Chg.refl _ _ | rfl⟩
  · have HE := Lib.hid (show checkB fs = checkL (fs.drop 0) by unfold checkB; rw [if_neg (by omega)]; rfl)
    go_enter Tryd.func11, Tryd.ntmps11
    go_wp2
    go_loopw [10] (fun i wr => ∃ k : Nat, i = .int .i64 k ∧ k ≤ fs.length ∧ Hid (checkB fs = checkL (fs.drop k)) ∧ Hid (Chg [] w wr)) (fun i _ => fs.length - (intOf i).toNat)
    case atStart => exact ⟨0, rfl, by omega, HE, Chg.refl _ _⟩
    case round =>
      obtain ⟨k, rfl, hk, HL, HC⟩ := hrel
      by_cases hlt : k < fs.length
      · obtain ⟨b, o, rfl, hbs, hx⟩ := HR.out (by omega)
        obtain ⟨f, hfk⟩ : ∃ f, fs[k]? = some f := ⟨_, List.getElem?_eq_getElem hlt⟩
        have c1 := HC.out.cell (hx k f hfk).1 (by simp)
        have c2 := HC.out.cell (hx k f hfk).2 (by simp)
        obtain ⟨hs1, hs2⟩ := hb.out.2.2 f (List.mem_of_getElem? hfk)
        have HS := Lib.hid (HL.out.trans (checkL_step hfk))
        clear hx hfk
        obtain ⟨n, x⟩ := f
        dsimp only at c1 c2 hs1 hs2 HS
        have HFE : Hid (fieldE n x = if tokB n = false then 70 else if valB x = false then 71 else 0) := Lib.hid rfl
        have HC1 := Lib.hid (HC.out.alloc (.cells #[.string n, .string x] 36))
        have HB := Lib.hid (Blk.new wr [.string n, .string x] 36)
        go_wp2_with fail
        refine (rtoken_any n _ hs1).mono ?_
        rintro e w2 ⟨rfl, H2⟩
        have HC2 := Lib.hid (HC1.out.trans H2.out (by simp))
        have HB2 := Lib.hid (HB.out.chg H2.out (by simp))
        have c4 := HB2.out.cell 1 _ rfl
        cases h1 : tokB n
        · rw [h1] at HFE
          have HZ := Lib.hid (show checkB fs = 70 by rw [HS.out, HFE.out]; rfl)
          go_wp2
          go_ret
          exact ⟨by rw [HZ.out]; rfl, HC2.out⟩
        · rw [h1] at HFE
          go_wp2_with fail
          refine (rvalue_any x _ hs2).mono ?_
          rintro e w3 ⟨rfl, rfl⟩
          cases h2 : valB x
          · rw [h2] at HFE
            have HZ := Lib.hid (show checkB fs = 71 by rw [HS.out, HFE.out]; rfl)
            go_wp2
            go_ret
            exact ⟨by rw [HZ.out]; rfl, HC2.out⟩
          · rw [h2] at HFE
            have HZ := Lib.hid (show checkB fs = checkL (fs.drop (k + 1)) by rw [HS.out, HFE.out]; rfl)
            go_wp2
            go_roundw
            case rel => exact ⟨k + 1, by go_num, by omega, HZ, HC2⟩
            case measure => simp [intOf]; omega
      · obtain rfl : k = fs.length := by omega
        have HZ := Lib.hid (show checkB fs = 0 by rw [HL.out, List.drop_length]; rfl)
        go_wp2
        go_ret
        exact ⟨by rw [HZ.out]; rfl, HC.out⟩
end Go.Proofs.YtiimofejcakgoaaDoor
