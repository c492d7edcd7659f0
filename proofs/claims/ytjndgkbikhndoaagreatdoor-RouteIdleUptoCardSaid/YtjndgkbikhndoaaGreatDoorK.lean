/- General words on memory for the walks of this seat: a block of cells that a call owns, and what a call may change. They speak of no program. -/
import Derived.WalkKit
import Derived.Lib.Hide
import Derived.BigQuiet
import Derived.SizedLaws
import Derived.ChangeSlices
namespace Go.Proofs.YtjndgkbikhndoaaGreatDoor
open Go.RowKit Go.ChangeShapes Go.WideShapes

/-- Block b holds just the cells vs of element type T, none of them frozen. -/
def Blk (w : World) (b : Nat) (vs : List Value) (T : Nat) : Prop := w.heap[b]? = some (.cells vs.toArray T (0, 0))
theorem Blk.lt {w : World} {b : Nat} {vs : List Value} {T : Nat} (h : Blk w b vs T) : b < w.heap.size := lt_of_block h
theorem Blk.cell {w : World} {b : Nat} {vs : List Value} {T : Nat} (h : Blk w b vs T) (i : Nat) (v : Value) (hv : vs[i]? = some v) : w.cell? ⟨b, i, none⟩ = some v := by
  unfold Blk at h
  simp [World.cell?, h, hv]
theorem Blk.free {w : World} {b : Nat} {vs : List Value} {T : Nat} (h : Blk w b vs T) (i : Nat) : w.frozen? ⟨b, i, none⟩ = false := by
  unfold Blk at h
  simp [World.frozen?, h]
theorem Blk.set {w : World} {b : Nat} {vs : List Value} {T : Nat} (h : Blk w b vs T) (i : Nat) (v : Value) : Blk (w.setCell ⟨b, i, none⟩ v) b (vs.set i v) T := by
  have hlt := h.lt
  unfold Blk at h ⊢
  have h' : w.heap[b] = .cells vs.toArray T (0, 0) := by simpa [Array.getElem?_eq_getElem hlt] using h
  show (w.heap.modify b _)[b]? = _
  rw [Array.getElem?_eq_getElem (by simpa using hlt), Array.getElem_modify_self, h']
  simp
theorem Blk.new (w : World) (vs : List Value) (T : Nat) : Blk (w.alloc (.cells vs.toArray T)) w.heap.size vs T := by
  unfold Blk
  exact heap_alloc_new w _
theorem Blk.kept {w w' : World} {b : Nat} {vs : List Value} {T : Nat} (h : Blk w b vs T) (hk : w'.heap[b]? = w.heap[b]?) : Blk w' b vs T := by
  unfold Blk at h ⊢
  rw [hk]; exact h
theorem Blk.alloc {w : World} {b : Nat} {vs : List Value} {T : Nat} (h : Blk w b vs T) (o : Obj) : Blk (w.alloc o) b vs T :=
  h.kept (Below.heap_alloc _ _ _ h.lt)
theorem Blk.other {w : World} {b : Nat} {vs : List Value} {T : Nat} (h : Blk w b vs T) {a : Addr} (ha : b ≠ a.block) (u : Value) : Blk (w.setCell a u) b vs T :=
  h.kept (Below.heap_setCell _ _ _ _ ha)
theorem Blk.drewN {w : World} {b : Nat} {vs : List Value} {T : Nat} (h : Blk w b vs T) (n : Nat) : Blk (w.drewN n) b vs T := h.kept rfl

/-- The world w' is w but for new blocks, and for the blocks that F names. -/
structure Chg (F : List Nat) (w w' : World) : Prop where
  os : w'.os = w.os
  tape : w'.tape = w.tape
  output : w'.output = w.output
  size : w.heap.size ≤ w'.heap.size
  block : ∀ k, k < w.heap.size → k ∉ F → w'.heap[k]? = w.heap[k]?
theorem Chg.refl (F : List Nat) (w : World) : Chg F w w := ⟨rfl, rfl, rfl, Nat.le_refl _, fun _ _ _ => rfl⟩
theorem Chg.trans {F F' : List Nat} {a b c : World} (h : Chg F a b) (k : Chg F' b c) (hF : ∀ i, i ∈ F' → i < a.heap.size → i ∈ F) : Chg F a c :=
  ⟨k.os.trans h.os, k.tape.trans h.tape, k.output.trans h.output, Nat.le_trans h.size k.size, fun i hi hn =>
    (k.block i (Nat.lt_of_lt_of_le hi h.size) (fun hm => hn (hF i hm hi))).trans (h.block i hi hn)⟩
theorem Chg.drewN {F : List Nat} {a w : World} (h : Chg F a w) (n : Nat) : Chg F a (w.drewN n) := ⟨h.os, h.tape, h.output, h.size, h.block⟩
theorem Chg.drew {F : List Nat} {a w : World} (h : Chg F a w) : Chg F a w.drew := ⟨h.os, h.tape, h.output, h.size, h.block⟩
theorem Chg.alloc {F : List Nat} {a w : World} (h : Chg F a w) (o : Obj) : Chg F a (w.alloc o) :=
  h.trans (F' := []) ⟨rfl, rfl, rfl, by simp, fun k hk _ => Below.heap_alloc _ _ _ hk⟩ (by simp)
theorem Chg.setCell {F : List Nat} {a w : World} (h : Chg F a w) {p : Addr} (hp : p.block < a.heap.size → p.block ∈ F) (u : Value) : Chg F a (w.setCell p u) :=
  h.trans (F' := [p.block]) ⟨rfl, rfl, rfl, by simp [World.setCell], fun k _ hn => Below.heap_setCell _ _ _ _ (by simpa using hn)⟩ (by
    intro i hi hlt
    obtain rfl : i = p.block := by simpa using hi
    exact hp hlt)
theorem Chg.grown {F : List Nat} {a w w' : World} {row : Option Nat} (h : Chg F a w) (hg : w.grownBy w' row) (hr : ∀ k, row = some k → k < a.heap.size → k ∈ F) : Chg F a w' :=
  h.trans (F' := row.toList) ⟨hg.os, hg.tape, hg.output, hg.size, fun k hk hn => hg.block k hk (fun e => hn (by simp [← e]))⟩ (by
    intro i hi hlt
    exact hr i (by simpa using hi) hlt)
theorem Chg.below {w w' : World} (h : Chg [] w w') : Below w.heap.size w w' := ⟨h.os, h.tape, h.output, h.size, fun k hk => h.block k hk (by simp)⟩
theorem Chg.of_below {w w' : World} (h : Below w.heap.size w w') : Chg [] w w' := ⟨h.os, h.tape, h.output, h.size, fun k hk _ => h.block k hk⟩
theorem Chg.mono {F F' : List Nat} {w w' : World} (h : Chg F w w') (hF : ∀ i, i ∈ F → i ∈ F') : Chg F' w w' := ⟨h.os, h.tape, h.output, h.size, fun k hk hn => h.block k hk (fun hm => hn (hF k hm))⟩
theorem Blk.chg {F : List Nat} {w w' : World} {b : Nat} {vs : List Value} {T : Nat} (h : Blk w b vs T) (hc : Chg F w w') (hb : b ∉ F) : Blk w' b vs T := h.kept (hc.block b h.lt hb)
theorem Chg.cell {F : List Nat} {w w' : World} (h : Chg F w w') {p : Addr} {v : Value} (hc : w.cell? p = some v) (hp : p.block ∉ F) : w'.cell? p = some v :=
  (World.cell?_of_block (h.block p.block (World.block_lt_of_cell? w p hc) hp)).trans hc

/-- A slice of whole numbers that is read: its places hold the list. -/
def Ints (w : World) (k : IntKind) (a : Option Addr) (n : Nat) (zs : List Int) : Prop :=
  zs.length = n ∧ (0 < n → ∃ x, a = some x ∧ ∀ i, i < n → w.cell? (x.add i) = some (.int k (zs.getD i 0)))
theorem sized_ints {H : Type} {enc : TypeId × Value → H} {P : Program} {W : World} {base : Nat} {spare : Nat → Bool} {held : Bool} {t e : TypeId} {k : IntKind} {a : Option Addr} {len cap : Nat} {d : DataW H} {ps : List MemPlace} {ts : List TypeId} {ds : List (DataW H)} {j : Nat}
    (hsz : (DataW.weightsEach P ts ds).all (· ≤ reachBytes) = true) (ht : ts[j]? = some t) (hd : ds[j]? = some d) (hu : P.underlying t = some (.slice e)) (he : P.underlying e = some (.int k)) (hc : P.cellsOf e = 1) {B : Nat} (hB : P.bytesOf e = B)
    (h : DataW.Trod enc P W base spare held t (.slice a len cap) d ps) :
    len * B ≤ 140737488351232 ∧ len ≤ 9223372036854775807 ∧ ∃ zs : List Int, Ints W k a len zs ∧ (∀ n ∈ zs, (Lit.int k n).wf = true) := by
  obtain ⟨fuel, hf⟩ := h
  rcases open_ints hu he hc hf with ⟨hcs, _⟩ | ⟨x, l, c, zs, hcs, _, hl, hm, hz, hx, hcell, hwf⟩
  · simp [Value.cells] at hcs
    obtain ⟨rfl, rfl, rfl⟩ := hcs
    exact ⟨by simp, by simp, [], ⟨rfl, by simp⟩, by simp⟩
  · simp [Value.cells] at hcs
    obtain ⟨rfl, rfl, rfl⟩ := hcs
    obtain ⟨hx, _⟩ := Prod.mk.inj hx
    subst hx
    have z := sized_slice hsz ht hd hu
    rw [hB] at z
    have hl2 : len ≤ zs.length := by
      rw [hz]
      split
      · exact hl
      · exact Nat.le_refl _
    have h1 : (lits (H := H) k (zs.take len)).length + (lits (H := H) k (zs.drop len)).length = zs.length := by
      simp [lits]
      omega
    rw [h1] at z
    refine ⟨Nat.le_trans (Nat.mul_le_mul_right _ hl2) z, ?_, zs.take len, ⟨by simp; omega, fun _ => ⟨x, rfl, fun i hi => ?_⟩⟩, fun n hn => hwf n (List.mem_of_mem_take hn)⟩
    · simp only [maxLen] at hm
      omega
    · rw [hcell i (by omega)]
      simp [List.getD_eq_getElem?_getD, hi]
end Go.Proofs.YtjndgkbikhndoaaGreatDoor
