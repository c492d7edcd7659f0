/- Layer 5 (bytes): Lower, Same. -/
import Derived.Test.YtjndgkbikhndoaaGreatDoorProg
import Derived.Test.YtjndgkbikhndoaaGreatDoorK
import Derived.WalkKit
import Derived.Lib.Hide
import Derived.BigQuiet
import Derived.Maps.AppendAt
import Derived.Laws.IdiomStrings
namespace Go.Proofs.YtjndgkbikhndoaaGreatDoor
open Go.RowKit Go.ChangeShapes Go.WideShapes
set_option linter.unusedVariables false

/-- Block b holds just the cells vs, of which a range may be frozen. -/
def MBlk (w : World) (b : Nat) (vs : List Value) (T : Nat) (m : Nat × Nat) : Prop := w.heap[b]? = some (.cells vs.toArray T m)
theorem MBlk.lt {w : World} {b : Nat} {vs : List Value} {T : Nat} {m : Nat × Nat} (h : MBlk w b vs T m) : b < w.heap.size := lt_of_block h
theorem MBlk.cell {w : World} {b : Nat} {vs : List Value} {T : Nat} {m : Nat × Nat} (h : MBlk w b vs T m) (i : Nat) (v : Value) (hv : vs[i]? = some v) : w.cell? ⟨b, i, none⟩ = some v := by
  unfold MBlk at h
  simp [World.cell?, h, hv]
theorem MBlk.free {w : World} {b : Nat} {vs : List Value} {T lo hi : Nat} (h : MBlk w b vs T (lo, hi)) (i : Nat) (hi : i < lo) : w.frozen? ⟨b, i, none⟩ = false := by
  unfold MBlk at h
  simp [World.frozen?, h]
  omega
theorem MBlk.set {w : World} {b : Nat} {vs : List Value} {T : Nat} {m : Nat × Nat} (h : MBlk w b vs T m) (i : Nat) (v : Value) : MBlk (w.setCell ⟨b, i, none⟩ v) b (vs.set i v) T m := by
  have hlt := h.lt
  unfold MBlk at h ⊢
  have h' : w.heap[b] = .cells vs.toArray T m := by simpa [Array.getElem?_eq_getElem hlt] using h
  show (w.heap.modify b _)[b]? = _
  rw [Array.getElem?_eq_getElem (by simpa using hlt), Array.getElem_modify_self, h']
  simp
/-- A conversion whose run is known, as one step of the walk. -/
theorem wp_convert {P : Program} {o : Oper} {a : Act} {w : World} {K : Act → World → Prop} {Q : Exit → Act → World → Prop} (src dst : TypeId) (x : Operand) (d : Tmp) (hd : o.dst = some d) (hop : o.op = Op.convert src dst x) (v v' : Value) (w' : World) (hx : a.eval x = v) (h : (convert src dst v).run P w = .ok v' w') (hK : K (a.put (some d) v') w') : Oper.wp P o a w K Q := by
  rw [← hd] at hK
  unfold Oper.wp
  simp [execOp, hop, hx, h, Result.andThen]
  exact hK
/-- A byte in small letters. -/
def lowB (c : UInt8) : UInt8 := if 65 ≤ c.toNat ∧ c.toNat ≤ 90 then c + 32 else c
def u8s (l : List UInt8) : List Value := l.map (fun c => Value.int .u8 (c.toNat : Int))
/-- The first k of them in small letters. -/
def lowK (l : List UInt8) (k : Nat) : List UInt8 := (l.take k).map lowB ++ l.drop k
theorem lowK_get (l : List UInt8) (k : Nat) (c : UInt8) (h : l[k]? = some c) : (lowK l k)[k]? = some c := by
  have hk := (List.getElem?_eq_some_iff.1 h).1
  unfold lowK
  rw [List.getElem?_append_right (by simp; omega), List.getElem?_drop]
  simp
  rw [show k + (k - min k l.length) = k by omega]
  exact h
theorem lowK_succ (l : List UInt8) (k : Nat) (c : UInt8) (h : l[k]? = some c) : lowK l (k + 1) = (lowK l k).set k (lowB c) := by
  have hk := (List.getElem?_eq_some_iff.1 h).1
  have hd : l.drop k = c :: l.drop (k + 1) := by
    have e : c = l[k] := (List.getElem?_eq_some_iff.1 h).2.symm
    rw [e]
    exact List.drop_eq_getElem_cons hk
  have ht : l.take (k + 1) = l.take k ++ [c] := by rw [List.take_add_one, h]; rfl
  unfold lowK
  rw [ht, hd, List.map_append, List.set_append_right _ _ (by simp; omega), List.length_map, List.length_take, show k - min k l.length = 0 by omega, List.set_cons_zero]
  simp
theorem lowK_len (l : List UInt8) (k : Nat) : (lowK l k).length = l.length := by unfold lowK; simp; omega
set_option maxHeartbeats 2000000 in
set_option maxRecDepth 100000 in
theorem lower_any (s : ByteArray) (w : World) (hs : s.size ≤ 1048576) :
    Calls Tryz.prog 72 #[.string s] w fun e w' => e = .returned (.string ⟨(s.data.toList.map lowB).toArray⟩) ∧ Hid (Chg [] w w') := by
  have hsz : s.size = s.data.toList.length := by
    show s.data.size = _
    rw [Array.length_toList]
  have hconv := run_bytes_of_string (P := Tryz.prog) w 9 100 5 s Tryz.underlying9 Tryz.underlying100 Tryz.underlying5
  generalize grownCap w s.size 0 5 = cap at *
  obtain ⟨rest, hrow⟩ : ∃ rest : List Value, bytesRow s cap = (u8s s.data.toList ++ rest).toArray := by
    refine ⟨List.replicate (cap - s.size) (.int .u8 0), ?_⟩
    unfold bytesRow u8s
    apply Array.ext'
    simp
  rw [hrow] at hconv
  have HM := Lib.hid (show MBlk (w.drew.alloc (.cells (u8s s.data.toList ++ rest).toArray 5 ((u8s s.data.toList ++ rest).toArray.size, (u8s s.data.toList ++ rest).toArray.size + 1))) w.heap.size (u8s s.data.toList ++ rest) 5 (((u8s s.data.toList ++ rest).toArray.size, (u8s s.data.toList ++ rest).toArray.size + 1)) from heap_alloc_new w.drew _)
  have HC := Lib.hid ((Chg.refl [] w).drew.alloc (.cells (u8s s.data.toList ++ rest).toArray 5 ((u8s s.data.toList ++ rest).toArray.size, (u8s s.data.toList ++ rest).toArray.size + 1)))
  have hfl : s.size ≤ (u8s s.data.toList ++ rest).toArray.size := by
    rw [List.size_toArray, List.length_append]
    unfold u8s
    rw [List.length_map, ← hsz]
    omega
  generalize (u8s s.data.toList ++ rest).toArray.size = lo at *
  have hz2 : (s.size : Int) ≤ 1048576 := by omega
  generalize w.drew.alloc (.cells (u8s s.data.toList ++ rest).toArray 5 (lo, lo + 1)) = w1 at *
  have hpl : w.heap.size ≤ w.heap.size := Nat.le_refl _
  generalize hp : w.heap.size = p at hconv HM
  have HP := Lib.hid (show w.heap.size ≤ p by omega)
  clear hp hpl hrow
  have HSZ := Lib.hid hsz
  clear hsz
  go_enter Tryz.func72, Tryz.ntmps72
  go_wp2
  go_loopw [10] (fun i wr => ∃ k : Nat, k ≤ s.size ∧ i = .int .i64 k ∧ Hid (MBlk wr p (u8s (lowK s.data.toList k) ++ rest) 5 (lo, lo + 1)) ∧ Hid (Chg [] w wr)) (fun i _ => s.size - (intOf i).toNat)
  case atStart => exact ⟨0, by omega, rfl, Lib.hid (by simpa [lowK] using HM.out), HC⟩
  case round =>
    obtain ⟨k, hk, rfl, HB, HCK⟩ := hrel
    by_cases hlt : k < s.size
    · have hkl : k < s.data.toList.length := by rw [← HSZ.out]; exact hlt
      obtain ⟨c, hc⟩ : ∃ c, s.data.toList[k]? = some c := ⟨_, List.getElem?_eq_getElem hkl⟩
      have hg := lowK_get _ k c hc
      have hlen := lowK_len s.data.toList k
      have cell := HB.out.cell k (.int .u8 (c.toNat : Int)) (by
        rw [List.getElem?_append_left (by unfold u8s; rw [List.length_map, hlen]; exact hkl)]
        unfold u8s
        rw [List.getElem?_map, hg]
        rfl)
      have fr := HB.out.free k (by omega)
      have hb : (c.toNat : Int) ≤ 255 := by have := c.toNat_lt; omega
      have hb0 : (0 : Int) ≤ (c.toNat : Int) := by omega
      have HSUC := Lib.hid (lowK_succ _ k c hc)
      have hlt2 : (k : Int) < (s.size : Int) := by omega
      by_cases h1 : 65 ≤ c.toNat ∧ c.toNat ≤ 90
      · have hl : ((lowB c).toNat : Int) = (c.toNat : Int) + 32 := by
          unfold lowB
          rw [if_pos h1, UInt8.toNat_add]
          have : (32 : UInt8).toNat = 32 := rfl
          rw [this]
          omega
        have HL := Lib.hid hl
        have hn := HB.out.set k (.int .u8 ((c.toNat : Int) + 32))
        have he : (u8s (lowK s.data.toList k) ++ rest).set k (.int .u8 ((c.toNat : Int) + 32)) = u8s (lowK s.data.toList (k + 1)) ++ rest := by
          rw [HSUC.out, List.set_append_left _ _ (by unfold u8s; rw [List.length_map, hlen]; exact hkl), ← hl]
          unfold u8s
          rw [List.map_set]
        rw [he] at hn
        have HN := Lib.hid hn
        have HCN := Lib.hid (HCK.out.setCell (p := ⟨p, k, none⟩) (by have := HP.out; dsimp only; omega) (.int .u8 ((c.toNat : Int) + 32)))
        have a1 : (65 : Int) ≤ (c.toNat : Int) := by omega
        have a2 : (c.toNat : Int) ≤ 90 := by omega
        have hw : IntKind.u8.wrap ((c.toNat : Int) + 32) = (c.toNat : Int) + 32 := by
          unfold IntKind.wrap IntKind.bits IntKind.signed
          simp
          omega
        clear h1 hl hn he hc hg hlen
        generalize (c.toNat : Int) = x at *
        go_wp2
        go_roundw
        case rel => exact ⟨k + 1, by omega, by go_num, HN, HCN⟩
        case measure => simp [intOf]; omega
      · have hl : lowB c = c := by unfold lowB; rw [if_neg h1]
        have hlk : lowK s.data.toList (k + 1) = lowK s.data.toList k := by
          rw [HSUC.out, hl]
          refine List.ext_getElem? (fun i => ?_)
          rw [List.getElem?_set]
          split
          · rename_i e
            subst e
            rw [if_pos (List.getElem?_eq_some_iff.1 hg).1, hg]
          · rfl
        have HLK := Lib.hid hlk
        clear hl hlk hc hg hlen
        by_cases a1 : (65 : Int) ≤ (c.toNat : Int)
        · have a2 : ¬ (c.toNat : Int) ≤ 90 := by omega
          clear h1
          generalize (c.toNat : Int) = x at *
          go_wp2
          go_roundw
          case rel => exact ⟨k + 1, by omega, by go_num, by rw [HLK.out]; exact HB, HCK⟩
          case measure => simp [intOf]; omega
        · clear h1
          generalize (c.toNat : Int) = x at *
          go_wp2
          go_roundw
          case rel => exact ⟨k + 1, by omega, by go_num, by rw [HLK.out]; exact HB, HCK⟩
          case measure => simp [intOf]; omega
    · have e : k = s.size := by omega
      have E1 : lowK s.data.toList k = s.data.toList.map lowB := by
        unfold lowK
        rw [e, HSZ.out, List.take_length, List.drop_length, List.append_nil]
      rw [E1] at HB
      have hback := run_convert_bytes_back (P := Tryz.prog) wr 100 9 5 ⟨p, 0, none⟩ cap (s.data.toList.map lowB) Tryz.underlying100 Tryz.underlying5 Tryz.underlying9 (fun j hj => by
        have := HB.out.cell j (.int .u8 (((s.data.toList.map lowB)[j]).toNat : Int)) (by
          rw [List.getElem?_append_left (by unfold u8s; simpa using hj)]
          unfold u8s
          rw [List.getElem?_map, List.getElem?_eq_getElem hj]
          rfl)
        rw [show (⟨p, 0, none⟩ : Addr).add j = ⟨p, j, none⟩ by unfold Addr.add; split <;> simp [*]]
        exact this)
      rw [List.length_map, ← HSZ.out] at hback
      go_wp2
      go_ret
      exact ⟨rfl, HCK.out⟩
def low (s : ByteArray) : ByteArray := ⟨(s.data.toList.map lowB).toArray⟩
theorem same_any (a b : ByteArray) (w : World) (ha : a.size ≤ 1048576) (hb : b.size ≤ 1048576) (z : Bool) (hz : decide ((low a).toList = (low b).toList) = z) :
    Calls Tryz.prog 68 #[.string a, .string b] w fun e w' => e = .returned (.bool z) ∧ Hid (Chg [] w w') := by
  have HZ := Lib.hid hz
  clear hz
  go_enter Tryz.func68, Tryz.ntmps68
  go_wp2_with fail
  refine (lower_any a _ ha).mono ?_
  rintro e w1 ⟨rfl, H1⟩
  go_wp2_with fail
  refine (lower_any b _ hb).mono ?_
  rintro e w2 ⟨rfl, H2⟩
  have hl1 : (⟨(a.data.toList.map lowB).toArray⟩ : ByteArray) = low a := rfl
  have hl2 : (⟨(b.data.toList.map lowB).toArray⟩ : ByteArray) = low b := rfl
  rw [hl1, hl2]
  clear hl1 hl2
  go_wp2_with fail
  go_ret
  refine ⟨?_, H1.out.trans H2.out (by simp)⟩
  rw [← HZ.out]
  first
  | rfl
  | (congr 2; by_cases h : (low a).toList = (low b).toList <;> simp [h])
end Go.Proofs.YtjndgkbikhndoaaGreatDoor
