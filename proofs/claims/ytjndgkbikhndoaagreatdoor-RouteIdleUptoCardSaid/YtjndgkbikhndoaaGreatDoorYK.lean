/- Layer 7 (fields): to append fields. -/
import Derived.Test.YtjndgkbikhndoaaGreatDoorY1
import Derived.Deep.AppendLies
import Derived.Lib.SliceRun
namespace Go.Proofs.YtjndgkbikhndoaaGreatDoor
open Go.RowKit Go.ChangeShapes Go.WideShapes
set_option linter.unusedVariables false

/-- A slice of fields that lies in memory from block B on. -/
def fcells (fs : List Fd) : List Value := fs.flatMap (fun f => [.string f.1, .string f.2])
def OwnF (B : Nat) (w : World) (v : Value) (fs : List Fd) : Prop := w.ownsRow B 56 2 v fs.length (fcells fs)
theorem OwnF.nil (B : Nat) (w : World) : OwnF B w (.slice none 0 0) [] := World.ownsRow_nil _ _ _ _
theorem fcells_get : ∀ (fs : List Fd) (j : Nat) (f : Fd), fs[j]? = some f → (fcells fs)[j * 2]? = some (.string f.1) ∧ (fcells fs)[j * 2 + 1]? = some (.string f.2)
  | [], j, f, h => by simp at h
  | g :: fs, 0, f, h => by
    simp at h
    subst h
    exact ⟨rfl, rfl⟩
  | g :: fs, j + 1, f, h => by
    have := fcells_get fs j f (by simpa using h)
    show (.string g.1 :: .string g.2 :: fcells fs)[(j + 1) * 2]? = _ ∧ _
    rw [show (j + 1) * 2 = j * 2 + 1 + 1 by omega]
    exact this
theorem OwnF.flds {B : Nat} {w : World} {v : Value} {fs : List Fd} (h : OwnF B w v fs) : Flds w v fs := by
  rcases h.2 with ⟨rfl, h0⟩ | ⟨g, cap, cur, rfl, hb, hh, h1, h2, h3, h4⟩
  · exact ⟨none, 0, by rw [h0], by omega, fun hp => by omega⟩
  · refine ⟨_, cap, rfl, h1, fun _ => ⟨g, 0, rfl, lt_of_block hh, fun j f hj => ?_⟩⟩
    have key : ∀ (i : Nat) (x : Value), (fcells fs)[i]? = some x → w.cell? ⟨g, 0 + i, none⟩ = some x := by
      intro i x hi
      rw [← h4, List.getElem?_take] at hi
      split at hi
      · rw [Nat.zero_add]
        simp only [World.cell?, hh]
        simpa using hi
      · cases hi
    have := fcells_get fs j f hj
    exact ⟨key _ _ this.1, by rw [Nat.add_assoc]; exact key _ _ this.2⟩
theorem OwnF.chg {B : Nat} {w w' : World} {v : Value} {fs : List Fd} (h : OwnF B w v fs) (hc : Chg [] w w') : OwnF B w' v fs := ownsRow_chg h hc
theorem OwnF.push {B : Nat} {w : World} {v : Value} {fs : List Fd} {n x : ByteArray} (h : w.ownsRow B 56 2 v (fs.length + 1) (fcells fs ++ [.string n, .string x])) : OwnF B w v (fs ++ [(n, x)]) := by
  unfold OwnF fcells
  rw [List.flatMap_append, List.length_append]
  exact h
theorem OwnF.lower {B B' : Nat} {w : World} {v : Value} {fs : List Fd} (h : OwnF B w v fs) (hb : B' ≤ B) : OwnF B' w v fs :=
  ⟨h.1, h.2.elim Or.inl (fun ⟨g, cap, cur, hv, hg, r⟩ => Or.inr ⟨g, cap, cur, hv, Nat.le_trans hb hg, r⟩)⟩
theorem infoF : (Tryz.prog.info? 56).map (fun i => (i.zero, i.size, i.bytes)) = some (some (.agg #[.string ⟨#[]⟩, .string ⟨#[]⟩]), 2, 32) := by kernel_rfl
theorem cells_new (w : World) (vs : List Value) (T : Nat) : ∀ (j : Nat) (u : Value), vs[j]? = some u → (w.alloc (.cells vs.toArray T)).cell? ((⟨w.heap.size, 0, none⟩ : Addr).add j) = some u := by
  intro j u h
  rw [show (⟨w.heap.size, 0, none⟩ : Addr).add j = ⟨w.heap.size, j, none⟩ by unfold Addr.add; split <;> simp [*]]
  exact (Blk.new w vs T).cell j u h
/-- A nil slice has no room. -/
def Nil0 (v : Value) : Prop := ∀ n c, v = .slice none n c → n = 0 ∧ c = 0
theorem OwnF.nil0 {B : Nat} {w : World} {v : Value} {fs : List Fd} (h : OwnF B w v fs) : Nil0 v := by
  rcases h.2 with ⟨rfl, h0⟩ | ⟨g, cap, cur, rfl, _⟩
  · intro n c e
    injection e with _ h1 h2
    exact ⟨h1.symm, h2.symm⟩
  · intro n c e
    injection e with h1
    cases h1
theorem fcells_len (fs : List Fd) : (fcells fs).length = fs.length * 2 := by
  unfold fcells
  induction fs with
  | nil => rfl
  | cons f fs ih =>
    rw [List.flatMap_cons, List.length_append, ih, List.length_cons]
    simp
    omega
theorem fcells_one (fs : List Fd) : ∀ u, u ∈ fcells fs → u.oneCell' = true := by
  intro u hu
  unfold fcells at hu
  obtain ⟨f, _, hf⟩ := List.mem_flatMap.1 hu
  simp at hf
  rcases hf with rfl | rfl <;> rfl
theorem fcells_at (fs : List Fd) (j : Nat) (u : Value) (h : (fcells fs)[j]? = some u) : ∃ f, fs[j / 2]? = some f ∧ u = (if j % 2 = 0 then .string f.1 else .string f.2) := by
  have hj := (List.getElem?_eq_some_iff.1 h).1
  rw [fcells_len] at hj
  obtain ⟨f, hf⟩ : ∃ f, fs[j / 2]? = some f := ⟨_, List.getElem?_eq_getElem (by omega)⟩
  refine ⟨f, hf, ?_⟩
  have := fcells_get fs (j / 2) f hf
  by_cases hm : j % 2 = 0
  · rw [if_pos hm]
    rw [show j / 2 * 2 = j by omega, h] at this
    exact Option.some.inj this.1
  · rw [if_neg hm]
    rw [show j / 2 * 2 + 1 = j by omega, h] at this
    exact Option.some.inj this.2
/-- What is appended: a slice of fields, read. -/
theorem Flds.src {w : World} {u : Value} {fs : List Fd} (h : Flds w u fs) (h0 : Nil0 u) : (u = .slice none 0 0 ∧ fs = []) ∨ ∃ ad c, u = .slice (some ad) fs.length c ∧ ∀ (j : Nat) (x : Value), (fcells fs)[j]? = some x → w.cell? (ad.add j) = some x := by
  obtain ⟨a, cap, rfl, hcap, hr⟩ := h
  cases a with
  | none =>
    obtain ⟨h1, h2⟩ := h0 _ _ rfl
    refine .inl ⟨by rw [h1, h2], List.eq_nil_of_length_eq_zero h1⟩
  | some ad =>
    refine .inr ⟨ad, cap, rfl, fun j x hj => ?_⟩
    have hjl := (List.getElem?_eq_some_iff.1 hj).1
    rw [fcells_len] at hjl
    obtain ⟨b, o, e, hb, hx⟩ := hr (by omega)
    injection e with e
    subst e
    obtain ⟨f, hf, rfl⟩ := fcells_at fs j x hj
    obtain ⟨x1, x2⟩ := hx _ _ hf
    rw [Addr.add_lit]
    by_cases hm : j % 2 = 0
    · rw [if_pos hm]
      rw [show o + j / 2 * 2 = o + j by omega] at x1
      exact x1
    · rw [if_neg hm]
      rw [show o + j / 2 * 2 + 1 = o + j by omega] at x2
      exact x2
theorem grown_refl (w : World) (row : Option Nat) : w.grownBy w row := ⟨rfl, rfl, rfl, Nat.le_refl _, fun _ _ _ => rfl⟩
theorem run_appF (ty B : Nat) (w : World) (v u : Value) (n : Nat) (xs : List Value) (fs : List Fd) (ho : w.ownsRow B 56 2 v n xs) (hu : Flds w u fs) (h0 : Nil0 u) (hl : n + fs.length ≤ 100000000) (hB : B ≤ w.heap.size) :
    ∃ v' w', (Builtin.append_ #[25, 25] ty #[v, u]).run Tryz.prog w = .ok v' w' ∧ w'.ownsRow B 56 2 v' (n + fs.length) (xs ++ fcells fs) ∧ w.grownBy w' v.ownBlock := by
  obtain ⟨i0, hi, hz0, hz1, hz2⟩ := info_parts infoF
  rcases hu.src h0 with ⟨rfl, rfl⟩ | ⟨ad, c, rfl, hc⟩
  · refine ⟨v, w, run_append_owned_none w B 25 ty 56 i0 2 Tryz.underlying25 hi v n xs ho, ?_, grown_refl _ _⟩
    simpa [fcells] using ho
  · obtain ⟨v', w', h1, h2, h3, _⟩ := run_append_own (P := Tryz.prog) w B 25 ty 56 i0 _ 2 32 Tryz.underlying25 hi hz0 hz1 hz2 rfl (by decide) v n xs ho ad fs.length c (fcells fs) (fcells_len fs) hc (fcells_one fs) (by unfold maxLen; omega) (by omega) hB
    exact ⟨v', w', h1, h2, h3⟩
/-- append of fields, in the list of a plain region's operations. -/
theorem wpList_appF {w : World} {ops : Array Oper} {rest : List Oper} {o : Oper} {a : Go.Act} {Q : Exit → Go.Act → World → Prop} (hgd : o.guard = none) (s x : Operand)
    (ho : o.op = .call { callee := .builtin .append, args := #[s, x], argTypes := #[25, 25] }) (v u : Value) (hs : a.eval s = v) (hx : a.eval x = u) (v' : Value) (w' : World)
    (hr : (Builtin.append_ #[25, 25] o.type #[v, u]).run Tryz.prog w = .ok v' w') (h : wpList Tryz.prog ops Q rest (a.put o.dst v') w') : wpList Tryz.prog ops Q (o :: rest) a w := by
  refine wpList_plain hgd fun K hK => ?_
  unfold Oper.wp execOp
  simp only [ho, resolve, invoke, builtin, Sem.run_bind, Sem.run_pure, Result.andThen_ok, List.map_toArray, List.map_cons, List.map_nil, hs, hx, hr]
  exact hK _ _ h
theorem OwnF.join {B : Nat} {w : World} {v : Value} {a b : List Fd} (h : w.ownsRow B 56 2 v (a.length + b.length) (fcells a ++ fcells b)) : OwnF B w v (a ++ b) := by
  unfold OwnF fcells
  rw [List.flatMap_append, List.length_append]
  exact h
end Go.Proofs.YtjndgkbikhndoaaGreatDoor
