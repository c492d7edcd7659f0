/- Layer 7 (fields): Get, both sides. -/
import Derived.Test.YtiimofejcakgoaaDoorF4
namespace Go.Proofs.YtiimofejcakgoaaDoor
open Go.RowKit Go.ChangeShapes Go.WideShapes
set_option linter.unusedVariables false

def joinL (vs : List ByteArray) : List UInt8 := Lib.join (vs.map (·.data.toList)) [44, 32]
def joinB (vs : List ByteArray) : ByteArray := ⟨(joinL vs).toArray⟩
theorem joinL_first {vs : List ByteArray} {v : ByteArray} (h : vs[0]? = some v) : joinL (vs.take 1) = v.data.toList := by
  cases vs with
  | nil => simp at h
  | cons x r =>
    simp at h
    subst h
    exact Lib.join_one _ _
theorem joinL_succ {vs : List ByteArray} {k : Nat} {v : ByteArray} (h : vs[k + 1]? = some v) : joinL (vs.take (k + 1 + 1)) = joinL (vs.take (k + 1)) ++ [44, 32] ++ v.data.toList := by
  cases vs with
  | nil => simp at h
  | cons x r =>
    unfold joinL
    rw [List.take_succ_cons, List.take_succ_cons, List.map_cons, List.map_cons, Lib.join_cons, Lib.join_cons, List.map_take, List.map_take, Lib.joinTail_take_succ (y := v.data.toList)]
    · rw [List.append_assoc, List.append_assoc, List.append_assoc]
    · rw [List.getElem?_map]
      simp at h
      rw [h]
      rfl
theorem joinL_len (vs : List ByteArray) : (joinL vs).length ≤ 2 * wtS vs := by
  cases vs with
  | nil => show ([] : List UInt8).length ≤ _; simp
  | cons x r =>
    unfold joinL
    rw [List.map_cons, Lib.join_length]
    have : Lib.lens (x.data.toList :: r.map (·.data.toList)) + (r.length + 1) = wtS (x :: r) := by
      unfold Lib.lens wtS
      rw [List.map_cons, List.map_cons, List.sum_cons, List.sum_cons, toList_len]
      have : ((r.map (·.data.toList)).map (·.length)).sum + r.length = (r.map (fun v => v.size + 1)).sum := by
        induction r with
        | nil => rfl
        | cons y r ih =>
          rw [List.map_cons, List.map_cons, List.map_cons, List.sum_cons, List.sum_cons, List.length_cons, toList_len]
          omega
      omega
    rw [List.length_map]
    simp only [List.length_cons, List.length_nil]
    omega
theorem join_bound (fs : List Fd) (name : ByteArray) (hb : BdF fs) (k : Nat) : (joinL ((allB fs name).take k)).length ≤ 8000000 := by
  have h1 := joinL_len ((allB fs name).take k)
  have h2 := wtS_take (allB fs name) k
  have h3 := wtS_all fs name
  have h4 := hb.1
  have h5 := hb.2.1
  omega
def getB (fs : List Fd) (name : ByteArray) : ByteArray := joinB (allB fs name)
def gotB (fs : List Fd) (name : ByteArray) : Bool := decide (0 < (allB fs name).length)
set_option maxHeartbeats 8000000 in
theorem get_any (v : Value) (fs : List Fd) (name : ByteArray) (w : World) (hf : Hid (Flds w v fs)) (hb : Hid (BdF fs)) (hn : name.size ≤ 1048576) :
    Calls Tryd.prog 8 #[v, .string name] w fun e w' => e = .returned (.tuple #[.string (getB fs name), .bool (gotB fs name)]) ∧ Hid (Chg [] w w') := by
  go_enter Tryd.func8, Tryd.ntmps8
  go_wp2_with fail
  refine (all_any v fs name w hf hb hn).mono ?_
  rintro e w1 ⟨r, rfl, HR, HC1⟩
  have hvl : (allB fs name).length ≤ 2000000 := by
    have h1 := allB_len fs name fs.length
    rw [List.take_length] at h1
    exact Nat.le_trans h1 hb.out.1
  have hjl : (joinL (allB fs name)).length ≤ 8000000 := by
    have h1 := join_bound fs name hb.out (allB fs name).length
    rw [List.take_length] at h1
    exact h1
  have HG : Hid (getB fs name = joinB (allB fs name) ∧ gotB fs name = decide (0 < (allB fs name).length)) := Lib.hid ⟨rfl, rfl⟩
  generalize allB fs name = vs at HR hvl hjl HG
  by_cases h0 : vs.length = 0
  · have hnil : vs = [] := List.eq_nil_of_length_eq_zero h0
    subst hnil
    obtain ⟨A, cp, rfl⟩ := HR.out.form
    have hj := Tryd.strings_Join_none A cp ⟨#[44, 32]⟩ w1
    go_wp2_with fail
    refine hj.mono ?_
    rintro e w2 ⟨rfl, rfl⟩
    go_wp2_with fail
    go_ret2
    refine ⟨?_, HC1.out⟩
    rw [HG.out.1, HG.out.2]
    rfl
  · obtain ⟨g, cp, rfl, hcp, hg, hcells⟩ := HR.out.read (by omega)
    have hj := Tryd.strings_Join g 0 cp vs ⟨#[44, 32]⟩ w1 (fun j x hx => by rw [Nat.zero_add]; exact hcells j x hx) hg (by omega) hcp (by
      show (joinL vs).length ≤ _
      omega)
    have hpos : (0 : Int) < (vs.length : Int) := by omega
    clear hcells
    go_wp2_with fail
    refine hj.mono ?_
    rintro e w2 ⟨rfl, H2⟩
    have HC2 := Chg.ofBelow H2
    have hE : (⟨(Lib.join (vs.map (·.data.toList)) (⟨#[44, 32]⟩ : ByteArray).data.toList).toArray⟩ : ByteArray) = joinB vs := rfl
    rw [hE]
    clear hE H2 hj
    go_wp2_with fail
    go_ret2
    refine ⟨?_, HC1.out.trans HC2.out (by simp)⟩
    rw [HG.out.1, HG.out.2, decide_eq_true (show 0 < vs.length by omega)]
    first
    | rfl
    | (simp; done)
set_option maxHeartbeats 8000000 in
set_option maxRecDepth 100000 in
theorem rget_any (v : Value) (fs : List Fd) (name : ByteArray) (w : World) (hf : Hid (Flds w v fs)) (hb : Hid (BdF fs)) (hn : name.size ≤ 1048576) :
    Calls Tryd.prog 9 #[v, .string name] w fun e w' => e = .returned (.tuple #[.string (getB fs name), .bool (gotB fs name)]) ∧ Hid (Chg [] w w') := by
  go_enter Tryd.func9, Tryd.ntmps9
  go_wp2_with fail
  refine (rall_any v fs name w hf hb hn).mono ?_
  rintro e w1 ⟨r, rfl, HR, HC1⟩
  have hvl : (allB fs name).length ≤ 2000000 := by
    have h1 := allB_len fs name fs.length
    rw [List.take_length] at h1
    exact Nat.le_trans h1 hb.out.1
  have HJL := Lib.hid (join_bound fs name hb.out)
  have HVS := Lib.hid (allB_size fs name hb.out)
  have HG : Hid (getB fs name = joinB (allB fs name) ∧ gotB fs name = decide (0 < (allB fs name).length)) := Lib.hid ⟨rfl, rfl⟩
  generalize allB fs name = vs at HR hvl HJL HG HVS
  obtain ⟨A, cp, rfl⟩ := HR.out.form
  go_wp2_with fail
  go_loopw [6, 15] (fun s i wr => ∃ (k : Nat) (t : ByteArray), i = .int .i64 k ∧ s = .string t ∧ k ≤ vs.length ∧ Hid (t.data.toList = joinL (vs.take k)) ∧ wr = w1) (fun _ i _ => vs.length - (intOf i).toNat)
  case atStart => exact ⟨0, ⟨#[]⟩, rfl, rfl, by omega, Lib.hid rfl, rfl⟩
  case round =>
    obtain ⟨k, t, rfl, rfl, hk, HT, rfl⟩ := hrel
    by_cases hlt : k < vs.length
    · obtain ⟨x, hx⟩ : ∃ x, vs[k]? = some x := ⟨_, List.getElem?_eq_getElem hlt⟩
      obtain ⟨g, cp2, he, hcp, hg, hcells⟩ := HR.out.read (by omega)
      obtain ⟨rfl, rfl⟩ : A = some ⟨g, 0, none⟩ ∧ cp = cp2 := by injection he with h1 h2 h3; exact ⟨h1, h3⟩
      have c1 := hcells k x hx
      have hxs := HVS.out x (List.mem_of_getElem? hx)
      have HX := Lib.hid hx
      have hts : t.size ≤ 8000000 := by
        have h1 := HJL.out k
        rw [← HT.out, toList_len] at h1
        exact h1
      clear hcells he hx
      cases k with
      | zero =>
        have hk0 : ¬ ((0 : Int) < ((0 : Nat) : Int)) := by omega
        go_wp2
        go_roundw
        case rel => exact ⟨1, _, rfl, rfl, by omega, Lib.hid (by rw [app_list, HT.out, joinL_first HX.out]; rfl), by first | rfl | trivial⟩
        case measure => simp [intOf]; omega
      | succ k =>
        have hk0 : ((0 : Int) < ((k + 1 : Nat) : Int)) := by omega
        go_wp2
        go_roundw
        case rel => exact ⟨k + 1 + 1, _, by first | rfl | (congr 1; omega), rfl, by omega, Lib.hid (by rw [app_list, app_list, HT.out, joinL_succ HX.out]), by first | rfl | trivial⟩
        case measure => simp [intOf]; omega
    · obtain rfl : k = vs.length := by omega
      rw [List.take_length] at HT
      go_wp2
      go_ret2
      refine ⟨?_, HC1.out⟩
      rw [HG.out.1, HG.out.2, show joinB vs = t from by unfold joinB; rw [← HT.out]]
      first
      | rfl
      | (simp; done)
end Go.Proofs.YtiimofejcakgoaaDoor
