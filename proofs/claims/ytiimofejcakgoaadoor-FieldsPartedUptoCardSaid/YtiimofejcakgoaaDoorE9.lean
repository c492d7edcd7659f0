/- Slices of texts that a call makes itself; what parts a list's elements. -/
import Derived.Test.YtiimofejcakgoaaDoorE8
namespace Go.Proofs.YtiimofejcakgoaaDoor
open Go.RowKit Go.ChangeShapes Go.WideShapes
set_option linter.unusedVariables false

/-- A slice of texts that lies in memory from block B on. -/
def OwnS (B : Nat) (w : World) (v : Value) (ts : List ByteArray) : Prop := w.ownsRow B 9 1 v ts.length (ts.map Value.string)
theorem OwnS.nil (B : Nat) (w : World) : OwnS B w (.slice none 0 0) [] := World.ownsRow_nil _ _ _ _
theorem OwnS.form {B : Nat} {w : World} {v : Value} {ts : List ByteArray} (h : OwnS B w v ts) : ∃ A cap, v = .slice A ts.length cap := by
  rcases h.2 with ⟨rfl, h0⟩ | ⟨g, cap, cur, rfl, _⟩
  · exact ⟨none, 0, by rw [h0]⟩
  · exact ⟨_, cap, rfl⟩
theorem OwnS.read {B : Nat} {w : World} {v : Value} {ts : List ByteArray} (h : OwnS B w v ts) (hl : 0 < ts.length) : ∃ g cap, v = .slice (some ⟨g, 0, none⟩) ts.length cap ∧ ts.length ≤ cap ∧ g < w.heap.size ∧ ∀ (j : Nat) (x : ByteArray), ts[j]? = some x → w.cell? ⟨g, j, none⟩ = some (.string x) := by
  rcases h.2 with ⟨rfl, h0⟩ | ⟨g, cap, cur, rfl, hb, hh, h1, h2, h3, h4⟩
  · omega
  · refine ⟨g, cap, rfl, h1, lt_of_block hh, fun j x hj => ?_⟩
    have hi' : (cur.toList.take (ts.length * 1))[j]? = some (.string x) := by
      rw [h4, List.getElem?_map, hj]
      rfl
    rw [List.getElem?_take] at hi'
    split at hi'
    · simp only [World.cell?, hh]
      simpa using hi'
    · cases hi'
theorem ownsRow_chg {B e k n : Nat} {v : Value} {xs : List Value} {w w' : World} (h : w.ownsRow B e k v n xs) (hc : Chg [] w w') : w'.ownsRow B e k v n xs := by
  refine ⟨h.1, ?_⟩
  rcases h.2 with h2 | ⟨g, cap, cur, rfl, hb, hh, r⟩
  · exact .inl h2
  · exact .inr ⟨g, cap, cur, rfl, hb, by rw [hc.block g (lt_of_block hh) (by simp)]; exact hh, r⟩
theorem OwnS.chg {B : Nat} {w w' : World} {v : Value} {ts : List ByteArray} (h : OwnS B w v ts) (hc : Chg [] w w') : OwnS B w' v ts := ownsRow_chg h hc
theorem OwnS.push {B : Nat} {w : World} {v : Value} {ts : List ByteArray} {x : ByteArray} (h : w.ownsRow B 9 1 v (ts.length + 1) (ts.map Value.string ++ [.string x])) : OwnS B w v (ts ++ [x]) := by
  unfold OwnS
  simpa using h
theorem OwnS.lower {B B' : Nat} {w : World} {v : Value} {ts : List ByteArray} (h : OwnS B w v ts) (hb : B' ≤ B) : OwnS B' w v ts :=
  ⟨h.1, h.2.elim Or.inl (fun ⟨g, cap, cur, hv, hg, r⟩ => Or.inr ⟨g, cap, cur, hv, Nat.le_trans hb hg, r⟩)⟩
/-- A row of one's own has grown: nothing that lay has turned. -/
theorem Chg.grownOwn {B e k n : Nat} {v : Value} {xs : List Value} {w0 w w' : World} (h : Chg [] w0 w) (ho : w.ownsRow B e k v n xs) (hB : w0.heap.size ≤ B) (hg : w.grownBy w' v.ownBlock) : Chg [] w0 w' :=
  h.grown hg (fun q hq hlt => by have := ho.lt q hq; omega)
theorem info9 : (Tryd.prog.info? 9).map (fun i => (i.zero, i.size, i.bytes)) = some (some (.string ⟨#[]⟩), 1, 16) := by kernel_rfl

def emit (part : List UInt8) : List ByteArray := if Lib.trimS part bl2 = [] then [] else [⟨(Lib.trimS part bl2).toArray⟩]
def nq (q sk : Bool) (c : UInt8) : Bool := if sk = true then q else if c.toNat = 92 ∧ q = true then q else if c.toNat = 34 then !q else q
def ns (q sk : Bool) (c : UInt8) : Bool := if sk = true then false else decide (c.toNat = 92 ∧ q = true)
/-- A list's elements, as the document reads them. -/
def goL : List UInt8 → Bool → Bool → List UInt8 → List ByteArray
  | part, _, _, [] => emit part
  | part, q, sk, c :: l => if c.toNat = 44 ∧ q = false then emit part ++ goL [] q sk l else goL (part ++ [c]) (nq q sk c) (ns q sk c) l
def listB (l : List UInt8) : List ByteArray := goL [] false false l
theorem drop_cons {l : List UInt8} {k : Nat} {c : UInt8} (hc : l[k]? = some c) : l.drop k = c :: l.drop (k + 1) := by
  have hk := (List.getElem?_eq_some_iff.1 hc).1
  have e : c = l[k] := (List.getElem?_eq_some_iff.1 hc).2.symm
  rw [e]
  exact List.drop_eq_getElem_cons hk
theorem goL_end {dn R : List ByteArray} {part l : List UInt8} {q sk : Bool} {k : Nat} (h : dn ++ goL part q sk (l.drop k) = R) (hk : l.length ≤ k) : dn ++ emit part = R := by
  rw [List.drop_eq_nil_of_le hk] at h
  unfold goL at h
  exact h
theorem goL_comma {dn R : List ByteArray} {part l : List UInt8} {sk : Bool} {k : Nat} {c : UInt8} (h : dn ++ goL part false sk (l.drop k) = R) (hc : l[k]? = some c) (h4 : c.toNat = 44) : (dn ++ emit part) ++ goL [] false sk (l.drop (k + 1)) = R := by
  rw [drop_cons hc] at h
  unfold goL at h
  rw [if_pos ⟨h4, rfl⟩] at h
  rw [List.append_assoc]
  exact h
theorem goL_next {dn R : List ByteArray} {part l : List UInt8} {q sk q' sk' : Bool} {k : Nat} {c : UInt8} (h : dn ++ goL part q sk (l.drop k) = R) (hc : l[k]? = some c) (h4 : ¬ (c.toNat = 44 ∧ q = false)) (hq : nq q sk c = q') (hs : ns q sk c = sk') : dn ++ goL (part ++ [c]) q' sk' (l.drop (k + 1)) = R := by
  rw [drop_cons hc] at h
  unfold goL at h
  rw [if_neg h4, hq, hs] at h
  exact h
theorem emit_len (p : List UInt8) : (emit p).length ≤ 1 := by
  unfold emit
  split <;> simp
theorem goL_len : ∀ (l part : List UInt8) (q sk : Bool), (goL part q sk l).length ≤ l.length + 1
  | [], part, q, sk => by
    unfold goL
    have := emit_len part
    simp
    omega
  | c :: l, part, q, sk => by
    unfold goL
    split
    · have h1 := emit_len part
      have h2 := goL_len l [] q sk
      rw [List.length_append, List.length_cons]
      omega
    · have h2 := goL_len l (part ++ [c]) (nq q sk c) (ns q sk c)
      rw [List.length_cons]
      omega
theorem app_list (a b : ByteArray) : (a ++ b).data.toList = a.data.toList ++ b.data.toList := by
  rw [ByteArray.data_append, Array.toList_append]
theorem ext_one (s : ByteArray) (k : Nat) (c : UInt8) (h : s.data.toList[k]? = some c) : (s.extract k (k + 1)).data.toList = [c] := by
  rw [ext_list, drop_cons h, Nat.add_sub_cancel_left]
  rfl
end Go.Proofs.YtiimofejcakgoaaDoor
