/- Layer 7 (fields): to append fields; slices.Clone, slices.IndexFunc at fields. -/
import Derived.Test.YtiimofejcakgoaaDoorF9
import Derived.Deep.AppendLies
import Derived.Lib.SliceRun
namespace Go.Proofs.YtiimofejcakgoaaDoor
open Go.RowKit Go.ChangeShapes Go.WideShapes Go.Maps Go.WideMaps
set_option linter.unusedVariables false

/-- A nil slice has no room. -/
def Nil0 (v : Value) : Prop := ∀ n c, v = .slice none n c → n = 0 ∧ c = 0
theorem OwnF.nil0 {B : Nat} {w : World} {v : Value} {fs : List Fd} (h : OwnF B w v fs) : Nil0 v := by
  rcases h.2 with ⟨rfl, h0⟩ | ⟨g, cap, cur, rfl, _⟩
  · intro n c e
    injection e with _ h1 h2
    exact ⟨h1.symm, h2.symm⟩
  · intro n c e
    injection e with h1
    cases h1
theorem fcells_len (fs : List Fd) : (fcells fs).length = fs.length * 2 := by
  unfold fcells
  induction fs with
  | nil => rfl
  | cons f fs ih =>
    rw [List.flatMap_cons, List.length_append, ih, List.length_cons]
    simp
    omega
theorem fcells_one (fs : List Fd) : ∀ u, u ∈ fcells fs → u.oneCell' = true := by
  intro u hu
  unfold fcells at hu
  obtain ⟨f, _, hf⟩ := List.mem_flatMap.1 hu
  simp at hf
  rcases hf with rfl | rfl <;> rfl
theorem fcells_at (fs : List Fd) (j : Nat) (u : Value) (h : (fcells fs)[j]? = some u) : ∃ f, fs[j / 2]? = some f ∧ u = (if j % 2 = 0 then .string f.1 else .string f.2) := by
  have hj := (List.getElem?_eq_some_iff.1 h).1
  rw [fcells_len] at hj
  obtain ⟨f, hf⟩ : ∃ f, fs[j / 2]? = some f := ⟨_, List.getElem?_eq_getElem (by omega)⟩
  refine ⟨f, hf, ?_⟩
  have := fcells_get fs (j / 2) f hf
  by_cases hm : j % 2 = 0
  · rw [if_pos hm]
    rw [show j / 2 * 2 = j by omega, h] at this
    exact Option.some.inj this.1
  · rw [if_neg hm]
    rw [show j / 2 * 2 + 1 = j by omega, h] at this
    exact Option.some.inj this.2
/-- What is appended: a slice of fields, read. -/
theorem Flds.src {w : World} {u : Value} {fs : List Fd} (h : Flds w u fs) (h0 : Nil0 u) : (u = .slice none 0 0 ∧ fs = []) ∨ ∃ ad c, u = .slice (some ad) fs.length c ∧ ∀ (j : Nat) (x : Value), (fcells fs)[j]? = some x → w.cell? (ad.add j) = some x := by
  obtain ⟨a, cap, rfl, hcap, hr⟩ := h
  cases a with
  | none =>
    obtain ⟨h1, h2⟩ := h0 _ _ rfl
    refine .inl ⟨by rw [h1, h2], List.eq_nil_of_length_eq_zero h1⟩
  | some ad =>
    refine .inr ⟨ad, cap, rfl, fun j x hj => ?_⟩
    have hjl := (List.getElem?_eq_some_iff.1 hj).1
    rw [fcells_len] at hjl
    obtain ⟨b, o, e, hb, hx⟩ := hr (by omega)
    injection e with e
    subst e
    obtain ⟨f, hf, rfl⟩ := fcells_at fs j x hj
    obtain ⟨x1, x2⟩ := hx _ _ hf
    rw [Addr.add_lit]
    by_cases hm : j % 2 = 0
    · rw [if_pos hm]
      rw [show o + j / 2 * 2 = o + j by omega] at x1
      exact x1
    · rw [if_neg hm]
      rw [show o + j / 2 * 2 + 1 = o + j by omega] at x2
      exact x2
theorem grown_refl (w : World) (row : Option Nat) : w.grownBy w row := ⟨rfl, rfl, rfl, Nat.le_refl _, fun _ _ _ => rfl⟩
theorem run_appF (ty B : Nat) (w : World) (v u : Value) (n : Nat) (xs : List Value) (fs : List Fd) (ho : w.ownsRow B 36 2 v n xs) (hu : Flds w u fs) (h0 : Nil0 u) (hl : n + fs.length ≤ 100000000) (hB : B ≤ w.heap.size) :
    ∃ v' w', (Builtin.append_ #[22, 22] ty #[v, u]).run Tryd.prog w = .ok v' w' ∧ w'.ownsRow B 36 2 v' (n + fs.length) (xs ++ fcells fs) ∧ w.grownBy w' v.ownBlock := by
  obtain ⟨i0, hi, hz0, hz1, hz2⟩ := info_parts info36
  rcases hu.src h0 with ⟨rfl, rfl⟩ | ⟨ad, c, rfl, hc⟩
  · refine ⟨v, w, run_append_owned_none w B 22 ty 36 i0 2 Tryd.underlying22 hi v n xs ho, ?_, grown_refl _ _⟩
    simpa [fcells] using ho
  · obtain ⟨v', w', h1, h2, h3, _⟩ := run_append_own (P := Tryd.prog) w B 22 ty 36 i0 _ 2 32 Tryd.underlying22 hi hz0 hz1 hz2 rfl (by decide) v n xs ho ad fs.length c (fcells fs) (fcells_len fs) hc (fcells_one fs) (by unfold maxLen; omega) (by omega) hB
    exact ⟨v', w', h1, h2, h3⟩
/-- append of fields, in the list of a plain region's operations. -/
theorem wpList_appF {w : World} {ops : Array Oper} {rest : List Oper} {o : Oper} {a : Go.Act} {Q : Exit → Go.Act → World → Prop} (hgd : o.guard = none) (s x : Operand)
    (ho : o.op = .call { callee := .builtin .append, args := #[s, x], argTypes := #[22, 22] }) (v u : Value) (hs : a.eval s = v) (hx : a.eval x = u) (v' : Value) (w' : World)
    (hr : (Builtin.append_ #[22, 22] o.type #[v, u]).run Tryd.prog w = .ok v' w') (h : wpList Tryd.prog ops Q rest (a.put o.dst v') w') : wpList Tryd.prog ops Q (o :: rest) a w := by
  refine wpList_plain hgd fun K hK => ?_
  unfold Oper.wp execOp
  simp only [ho, resolve, invoke, builtin, Sem.run_bind, Sem.run_pure, Result.andThen_ok, List.map_toArray, List.map_cons, List.map_nil, hs, hx, hr]
  exact hK _ _ h
/-- append of fields, at a step of a region that draws. -/
theorem step_appF {w : World} {ops : Array Oper} {o : Oper} {a : Go.Act} {K : Go.Act → World → Prop} {Q : Exit → Go.Act → World → Prop} {E : Prop} (hgd : o.guard = none) (s x : Operand)
    (ho : o.op = .call { callee := .builtin .append, args := #[s, x], argTypes := #[22, 22] }) (v u : Value) (hs : a.eval s = v) (hx : a.eval x = u) (v' : Value) (w' : World)
    (hr : (Builtin.append_ #[22, 22] o.type #[v, u]).run Tryd.prog w = .ok v' w') (h : K (a.put o.dst v') w') : if Region.wanted o (yielded ops a.tmps) = true then Oper.wp Tryd.prog o a w K Q else E := by
  have hw : Region.wanted o (yielded ops a.tmps) = true := by simp [Region.wanted, hgd]
  rw [if_pos hw]
  unfold Oper.wp execOp
  simp only [ho, resolve, invoke, builtin, Sem.run_bind, Sem.run_pure, Result.andThen_ok, List.map_toArray, List.map_cons, List.map_nil, hs, hx, hr]
  exact h
set_option maxHeartbeats 8000000 in
set_option maxRecDepth 100000 in
theorem clone_any (v : Value) (fs : List Fd) (w : World) (hf : Hid (Flds w v fs)) (h0 : Hid (Nil0 v)) (hl : fs.length ≤ 4000000) :
    Calls Tryd.prog 43 #[v] w fun e w' => ∃ r, e = .returned r ∧ Hid (OwnF w.heap.size w' r fs) ∧ Hid (Chg [] w w') := by
  have q22 : ∀ (w : World) (a : Option Addr) (n c n' c' : Nat), (binOp .eql 22 (.slice a n c) (.slice none n' c')).run Tryd.prog w = .ok (.bool a.isNone) w := fun w a n c n' c' => Lib.run_eql_slice_nil w _ _ a n c n' c' Tryd.underlying22
  rcases hf.out.src h0.out with ⟨rfl, rfl⟩ | ⟨ad, c, rfl, hc⟩
  · go_enter Tryd.func43, Tryd.ntmps43
    go_wp2
    go_ret
    exact ⟨_, rfl, Lib.hid (OwnF.nil _ _), by first | exact Chg.refl _ _ | trivial⟩
  · have HM : Hid ((w.alloc (.cells #[] 36)).ownsRow w.heap.size 36 2 (.slice (some ⟨w.heap.size, 0, none⟩) 0 0) 0 []) := Lib.hid (by simpa using World.ownsRow_made (size := 2) w #[] 0 (Nat.le_refl _) (Nat.zero_le _) (by simp))
    have HFA := Lib.hid (hf.out.chg ((Chg.refl [] w).alloc (.cells #[] 36)))
    have HCA := Lib.hid ((Chg.refl [] w).alloc (.cells #[] 36))
    obtain ⟨v', w', hr, ho, hg⟩ := run_appF 22 w.heap.size (w.alloc (.cells #[] 36)) _ _ 0 [] fs HM.out HFA.out h0.out (by omega) (by simp)
    have HO : Hid (OwnF w.heap.size w' v' fs) := Lib.hid (by unfold OwnF; simpa using ho)
    have HC := Lib.hid (Chg.grownOwn HCA.out HM.out (Nat.le_refl _) hg)
    clear ho hg hc
    go_enter Tryd.func43, Tryd.ntmps43
    go_wp2_with (at_builtin; refine wpList_appF rfl _ _ rfl _ _ rfl rfl v' w' hr ?_)
    go_ret
    exact ⟨_, rfl, HO, HC.out⟩
end Go.Proofs.YtiimofejcakgoaaDoor
