/- Tables that a call makes itself: what it appends to. -/
import Derived.Test.YtjndgkbikhndoaaGreatDoorV7
import Derived.Test.YtjndgkbikhndoaaGreatDoorTB
namespace Go.Proofs.YtjndgkbikhndoaaGreatDoor
open Go.RowKit Go.ChangeShapes Go.WideShapes
set_option linter.unusedVariables false

/-- A table from block B on, of a call's own making. -/
def OwnT (B e k : Nat) (w : World) (v : Value) (rows : List (List Value)) : Prop := w.ownsRow B e k v rows.length rows.flatten
theorem OwnT.nil (B e k : Nat) (w : World) : OwnT B e k w (.slice none 0 0) [] := World.ownsRow_nil _ _ _ _
theorem OwnT.form {B e k : Nat} {w : World} {v : Value} {rows : List (List Value)} (h : OwnT B e k w v rows) : ∃ A cap, v = .slice A rows.length cap := by
  rcases h.2 with ⟨rfl, h0⟩ | ⟨g, cap, cur, rfl, _⟩
  · exact ⟨none, 0, by rw [h0]⟩
  · exact ⟨_, cap, rfl⟩
theorem OwnT.chg {B e k : Nat} {w w' : World} {v : Value} {rows : List (List Value)} (h : OwnT B e k w v rows) (hc : Chg [] w w') : OwnT B e k w' v rows := ownsRow_chg h hc
theorem OwnT.own_lt {B e k : Nat} {w : World} {v : Value} {rows : List (List Value)} (h : OwnT B e k w v rows) : ∀ q, v.ownBlock = some q → B ≤ q ∧ q < w.heap.size := fun q hq => World.ownsRow.lt h q hq
theorem OwnT.tbl {B e k : Nat} {w : World} {v : Value} {rows : List (List Value)} (h : OwnT B e k w v rows) (hk : ∀ r, r ∈ rows → r.length = k) : Tbl w v k rows := by
  rcases h.2 with ⟨rfl, h0⟩ | ⟨g, cap, cur, rfl, hb, hh, h1, h2, h3, h4⟩
  · exact ⟨none, 0, by rw [h0], by rw [h0]; exact Nat.le_refl _, fun h => by omega⟩
  · refine ⟨_, cap, rfl, h1, fun _ => ⟨g, 0, rfl, lt_of_block hh, fun i r hr j x hj => ?_⟩⟩
    have hx := flat_get rows hk i r j x hr hj
    rw [← h4, List.getElem?_take] at hx
    split at hx
    · rw [Nat.zero_add]
      simp only [World.cell?, hh]
      simpa using hx
    · cases hx
theorem run_pushT (T e k bytes : Nat) (zv : Value) (ty B : Nat) (w : World) (v : Value) (rows : List (List Value)) (r : List Value) (ad : Nat) (hT : Tryz.prog.underlying T = some (.slice e))
    (hinfo : (Tryz.prog.info? e).map (fun i => (i.zero, i.size, i.bytes)) = some (some zv, k, bytes)) (hzk : zv.cells.size = k) (hk0 : 0 < k) (ho : OwnT B e k w v rows) (hc : Blk w ad r e) (hr : r.length = k) (h1 : ∀ u, u ∈ r → u.oneCell' = true)
    (hl : rows.length ≤ 4000000) (hby : (rows.length + 1) * bytes ≤ 140737488355328) (hB : B ≤ w.heap.size) :
    ∃ v' w', (Builtin.append_ #[T, T] ty #[v, .slice (some ⟨ad, 0, none⟩) 1 1]).run Tryz.prog w = .ok v' w' ∧ OwnT B e k w' v' (rows ++ [r]) ∧ w.grownBy w' v.ownBlock := by
  obtain ⟨i0, hi, hz0, hz1, hz2⟩ := info_parts hinfo
  obtain ⟨v', w', q1, q2, q3, _⟩ := run_append_own (P := Tryz.prog) w B T ty e i0 _ k bytes hT hi hz0 hz1 hz2 hzk hk0 v rows.length _ ho ⟨ad, 0, none⟩ 1 1 r (by rw [hr, Nat.one_mul]) (fun j u hj => by
    rw [Addr.add_lit, Nat.zero_add]
    exact hc.cell j u hj) h1 (by unfold maxLen; omega) hby hB
  refine ⟨v', w', q1, ?_, q3⟩
  unfold OwnT
  rw [List.length_append, List.flatten_append]
  simpa using q2
/-- append, in the list of a plain region's operations. -/
theorem wpList_appT {w : World} {ops : Array Oper} {rest : List Oper} {o : Oper} {a : Go.Act} {Q : Exit → Go.Act → World → Prop} (hgd : o.guard = none) (T : TypeId) (s x : Operand)
    (ho : o.op = .call { callee := .builtin .append, args := #[s, x], argTypes := #[T, T] }) (v u : Value) (hs : a.eval s = v) (hx : a.eval x = u) (v' : Value) (w' : World)
    (hr : (Builtin.append_ #[T, T] o.type #[v, u]).run Tryz.prog w = .ok v' w') (h : wpList Tryz.prog ops Q rest (a.put o.dst v') w') : wpList Tryz.prog ops Q (o :: rest) a w := by
  refine wpList_plain hgd fun K hK => ?_
  unfold Oper.wp execOp
  simp only [ho, resolve, invoke, builtin, Sem.run_bind, Sem.run_pure, Result.andThen_ok, List.map_toArray, List.map_cons, List.map_nil, hs, hx, hr]
  exact hK _ _ h
theorem info45 : (Tryz.prog.info? 45).map (fun i => (i.zero, i.size, i.bytes)) = some (some (.agg #[.string ⟨#[]⟩, .int .i64 0, .int .i64 0]), 3, 32) := by kernel_rfl
theorem info42 : (Tryz.prog.info? 42).map (fun i => (i.zero, i.size, i.bytes)) = some (some (.agg #[.string ⟨#[]⟩, .string ⟨#[]⟩, .slice none 0 0, .string ⟨#[]⟩, .string ⟨#[]⟩, .slice none 0 0, .int .i64 0, .int .i64 0, .int .i64 0, .int .i64 0, .int .i64 0, .int .i64 0, .int .i64 0, .int .i64 0, .int .i64 0, .int .i64 0, .int .i64 0, .int .i64 0, .int .i64 0, .int .i64 0, .int .i64 0]), 21, 232) := by kernel_rfl
theorem rev_get {α : Type} {l : List α} {k : Nat} {x : α} (h : l[l.length - 1 - k]? = some x) (hk : k < l.length) : (l.reverse)[k]? = some x := by
  rw [List.getElem?_reverse hk]
  exact h
theorem take_rev_succ {α : Type} {l : List α} {k : Nat} {x : α} (h : l[l.length - 1 - k]? = some x) (hk : k < l.length) : (l.reverse).take (k + 1) = (l.reverse).take k ++ [x] := by
  rw [List.take_add_one, rev_get h hk]
  rfl
end Go.Proofs.YtjndgkbikhndoaaGreatDoor
