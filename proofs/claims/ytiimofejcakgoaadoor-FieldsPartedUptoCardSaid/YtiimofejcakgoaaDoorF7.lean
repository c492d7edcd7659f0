/- Layer 7 (fields): slices of fields that a call makes, sets of texts; without. -/
import Derived.Test.YtiimofejcakgoaaDoorF6
import Derived.Maps.Own
import Derived.Maps.OwnSet
import Derived.Maps.Views
import Derived.StringKeys
namespace Go.Proofs.YtiimofejcakgoaaDoor
open Go.RowKit Go.ChangeShapes Go.WideShapes Go.Maps Go.WideMaps
set_option linter.unusedVariables false

theorem mlaw : Keyed Tryd.prog 9 := string_keyed Tryd.underlying9
theorem zero3 (w : World) : (zeroValue 3).run Tryd.prog w = .ok (.int .i64 0) w := Tryd.zeroValue3 w
/-- A set of texts: a map that the call makes, which holds 1 at each of them. -/
def OwnM (w : World) (b n : Nat) (ks : List ByteArray) : Prop :=
  ∃ D : DataW Nat, w.ownsMap Tryd.prog 9 (plainElem Tryd.prog 3) b n D ∧ ∀ s : ByteArray, D.atKey (.string s.data.toList) (.lit (.int .i64 0)) = .lit (.int .i64 (if memB s ks = true then 1 else 0))
theorem OwnM.new (w : World) : OwnM (w.alloc (.map #[] 0)) w.heap.size 0 [] := ⟨.map [], World.ownsMap_made _ _ _ _, fun _ => rfl⟩
theorem OwnM.chg {w w' : World} {b n : Nat} {ks : List ByteArray} (h : OwnM w b n ks) (hc : Chg [] w w') : OwnM w' b n ks := by
  obtain ⟨D, ⟨es, clock, hb, r⟩, ha⟩ := h
  exact ⟨D, ⟨es, clock, by rw [hc.block b (Array.getElem?_eq_some_iff.1 hb).1 (by simp)]; exact hb, r⟩, ha⟩
theorem lit_inj {a b : Int} (h : (DataW.lit (.int .i64 a) : DataW Nat) = .lit (.int .i64 b)) : a = b := by
  injection h with h
  injection h
theorem OwnM.look {w : World} {b n : Nat} {ks : List ByteArray} (h : OwnM w b n ks) (s : ByteArray) (hs : s.size ≤ 1048576) : (Instr.lookup 52 (.map (some b)) (.string s) false).run Tryd.prog w = .ok (.int .i64 (if memB s ks = true then 1 else 0)) w := by
  obtain ⟨D, ho, ha⟩ := h
  obtain ⟨c, hrun, hat, _⟩ := ho.lookup_int mlaw Tryd.underlying52 Tryd.underlying3 (zero3 w) (keyOf_string_mk Tryd.underlying9 (show s.size ≤ maxLen by unfold maxLen; omega))
  have h2 := (ha s).symm.trans hat
  have h3 : (if memB s ks = true then 1 else 0 : Int) = c := lit_inj h2
  rw [hrun, h3]
theorem memB_cons (x s : ByteArray) (ks : List ByteArray) : memB x (s :: ks) = (decide (s = x) || memB x ks) := by
  unfold memB
  rw [List.any_cons]
theorem OwnM.put {w : World} {b n : Nat} {ks : List ByteArray} (h : OwnM w b n ks) (s : ByteArray) (hs : s.size ≤ 1048576) (hn : n ≤ 100000000) :
    ∃ w', (Instr.mapUpdate 52 (.map (some b)) (.string s) (.int .i64 1)).run Tryd.prog w = .ok () w' ∧ OwnM w' b (n + 1) (s :: ks) ∧ w.grownBy w' (some b) := by
  obtain ⟨D, ho, ha⟩ := h
  obtain ⟨w', hrun, ho', hg⟩ := ho.update mlaw Tryd.underlying52 (by unfold maxLen; omega) (val := .int .i64 1) (keyOf_string_mk Tryd.underlying9 (show s.size ≤ maxLen by unfold maxLen; omega)) (plainElem_int Tryd.underlying3 (by decide))
  refine ⟨w', hrun, ⟨_, ho', fun t => ?_⟩, hg⟩
  rw [memB_cons]
  by_cases e : s = t
  · subst e
    rw [atKey_put_same ho.isMap (by first | trivial | exact rfl | simp [WideAt.IsKeyLit]), decide_eq_true rfl]
    rfl
  · rw [atKey_put_other (by intro k; injection k with k; exact e (Go.WideShapes.bytes_inj k).symm), ha t, decide_eq_false e]
    rfl
/-- A slice of fields that lies in memory from block B on. -/
def fcells (fs : List Fd) : List Value := fs.flatMap (fun f => [.string f.1, .string f.2])
def OwnF (B : Nat) (w : World) (v : Value) (fs : List Fd) : Prop := w.ownsRow B 36 2 v fs.length (fcells fs)
theorem OwnF.nil (B : Nat) (w : World) : OwnF B w (.slice none 0 0) [] := World.ownsRow_nil _ _ _ _
theorem fcells_get : ∀ (fs : List Fd) (j : Nat) (f : Fd), fs[j]? = some f → (fcells fs)[j * 2]? = some (.string f.1) ∧ (fcells fs)[j * 2 + 1]? = some (.string f.2)
  | [], j, f, h => by simp at h
  | g :: fs, 0, f, h => by
    simp at h
    subst h
    exact ⟨rfl, rfl⟩
  | g :: fs, j + 1, f, h => by
    have := fcells_get fs j f (by simpa using h)
    show (.string g.1 :: .string g.2 :: fcells fs)[(j + 1) * 2]? = _ ∧ _
    rw [show (j + 1) * 2 = j * 2 + 1 + 1 by omega]
    exact this
theorem OwnF.flds {B : Nat} {w : World} {v : Value} {fs : List Fd} (h : OwnF B w v fs) : Flds w v fs := by
  rcases h.2 with ⟨rfl, h0⟩ | ⟨g, cap, cur, rfl, hb, hh, h1, h2, h3, h4⟩
  · exact ⟨none, 0, by rw [h0], by omega, fun hp => by omega⟩
  · refine ⟨_, cap, rfl, h1, fun _ => ⟨g, 0, rfl, lt_of_block hh, fun j f hj => ?_⟩⟩
    have key : ∀ (i : Nat) (x : Value), (fcells fs)[i]? = some x → w.cell? ⟨g, 0 + i, none⟩ = some x := by
      intro i x hi
      rw [← h4, List.getElem?_take] at hi
      split at hi
      · rw [Nat.zero_add]
        simp only [World.cell?, hh]
        simpa using hi
      · cases hi
    have := fcells_get fs j f hj
    exact ⟨key _ _ this.1, by rw [Nat.add_assoc]; exact key _ _ this.2⟩
theorem OwnF.chg {B : Nat} {w w' : World} {v : Value} {fs : List Fd} (h : OwnF B w v fs) (hc : Chg [] w w') : OwnF B w' v fs := ownsRow_chg h hc
theorem OwnF.push {B : Nat} {w : World} {v : Value} {fs : List Fd} {n x : ByteArray} (h : w.ownsRow B 36 2 v (fs.length + 1) (fcells fs ++ [.string n, .string x])) : OwnF B w v (fs ++ [(n, x)]) := by
  unfold OwnF fcells
  rw [List.flatMap_append, List.length_append]
  exact h
theorem OwnF.lower {B B' : Nat} {w : World} {v : Value} {fs : List Fd} (h : OwnF B w v fs) (hb : B' ≤ B) : OwnF B' w v fs :=
  ⟨h.1, h.2.elim Or.inl (fun ⟨g, cap, cur, hv, hg, r⟩ => Or.inr ⟨g, cap, cur, hv, Nat.le_trans hb hg, r⟩)⟩
theorem info36 : (Tryd.prog.info? 36).map (fun i => (i.zero, i.size, i.bytes)) = some (some (.agg #[.string ⟨#[]⟩, .string ⟨#[]⟩]), 2, 32) := by kernel_rfl
theorem cells_new (w : World) (vs : List Value) (T : Nat) : ∀ (j : Nat) (u : Value), vs[j]? = some u → (w.alloc (.cells vs.toArray T)).cell? ((⟨w.heap.size, 0, none⟩ : Addr).add j) = some u := by
  intro j u h
  rw [show (⟨w.heap.size, 0, none⟩ : Addr).add j = ⟨w.heap.size, j, none⟩ by unfold Addr.add; split <;> simp [*]]
  exact (Blk.new w vs T).cell j u h
end Go.Proofs.YtiimofejcakgoaaDoor
