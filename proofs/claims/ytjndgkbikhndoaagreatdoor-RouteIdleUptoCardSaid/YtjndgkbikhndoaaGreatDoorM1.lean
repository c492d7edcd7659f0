/- Layers 5, 6, the program: Lower, Same, Number, made, Host. -/
import Derived.Test.YtjndgkbikhndoaaGreatDoorProg
import Derived.Test.YtjndgkbikhndoaaGreatDoorK
import Derived.WalkKit
import Derived.Lib.Hide
import Derived.BigQuiet
import Derived.Maps.AppendAt
import Derived.Laws.IdiomStrings
import Derived.Test.YtjndgkbikhndoaaGreatDoorSh
import Derived.OwnWalk
namespace Go.Proofs.YtjndgkbikhndoaaGreatDoor
open Go.RowKit Go.ChangeShapes Go.WideShapes
set_option linter.unusedVariables false

/-- Block b holds just the cells vs, of which a range may be frozen. -/
def MBlk (w : World) (b : Nat) (vs : List Value) (T : Nat) (m : Nat × Nat) : Prop := w.heap[b]? = some (.cells vs.toArray T m)
theorem MBlk.lt {w : World} {b : Nat} {vs : List Value} {T : Nat} {m : Nat × Nat} (h : MBlk w b vs T m) : b < w.heap.size := lt_of_block h
theorem MBlk.cell {w : World} {b : Nat} {vs : List Value} {T : Nat} {m : Nat × Nat} (h : MBlk w b vs T m) (i : Nat) (v : Value) (hv : vs[i]? = some v) : w.cell? ⟨b, i, none⟩ = some v := by
  unfold MBlk at h
  simp [World.cell?, h, hv]
theorem MBlk.free {w : World} {b : Nat} {vs : List Value} {T lo hi : Nat} (h : MBlk w b vs T (lo, hi)) (i : Nat) (hi : i < lo) : w.frozen? ⟨b, i, none⟩ = false := by
  unfold MBlk at h
  simp [World.frozen?, h]
  omega
theorem MBlk.set {w : World} {b : Nat} {vs : List Value} {T : Nat} {m : Nat × Nat} (h : MBlk w b vs T m) (i : Nat) (v : Value) : MBlk (w.setCell ⟨b, i, none⟩ v) b (vs.set i v) T m := by
  have hlt := h.lt
  unfold MBlk at h ⊢
  have h' : w.heap[b] = .cells vs.toArray T m := by simpa [Array.getElem?_eq_getElem hlt] using h
  show (w.heap.modify b _)[b]? = _
  rw [Array.getElem?_eq_getElem (by simpa using hlt), Array.getElem_modify_self, h']
  simp
/-- A conversion whose run is known, as one step of the walk. -/
theorem wp_convert {P : Program} {o : Oper} {a : Act} {w : World} {K : Act → World → Prop} {Q : Exit → Act → World → Prop} (src dst : TypeId) (x : Operand) (d : Tmp) (hd : o.dst = some d) (hop : o.op = Op.convert src dst x) (v v' : Value) (w' : World) (hx : a.eval x = v) (h : (convert src dst v).run P w = .ok v' w') (hK : K (a.put (some d) v') w') : Oper.wp P o a w K Q := by
  rw [← hd] at hK
  unfold Oper.wp
  simp [execOp, hop, hx, h, Result.andThen]
  exact hK
/-- A byte in small letters. -/
def lowB (c : UInt8) : UInt8 := if 65 ≤ c.toNat ∧ c.toNat ≤ 90 then c + 32 else c
def u8s (l : List UInt8) : List Value := l.map (fun c => Value.int .u8 (c.toNat : Int))
/-- The first k of them in small letters. -/
def lowK (l : List UInt8) (k : Nat) : List UInt8 := (l.take k).map lowB ++ l.drop k
theorem lowK_get (l : List UInt8) (k : Nat) (c : UInt8) (h : l[k]? = some c) : (lowK l k)[k]? = some c := by
  have hk := (List.getElem?_eq_some_iff.1 h).1
  unfold lowK
  rw [List.getElem?_append_right (by simp; omega), List.getElem?_drop]
  simp
  rw [show k + (k - min k l.length) = k by omega]
  exact h
theorem lowK_succ (l : List UInt8) (k : Nat) (c : UInt8) (h : l[k]? = some c) : lowK l (k + 1) = (lowK l k).set k (lowB c) := by
  have hk := (List.getElem?_eq_some_iff.1 h).1
  have hd : l.drop k = c :: l.drop (k + 1) := by
    have e : c = l[k] := (List.getElem?_eq_some_iff.1 h).2.symm
    rw [e]
    exact List.drop_eq_getElem_cons hk
  have ht : l.take (k + 1) = l.take k ++ [c] := by rw [List.take_add_one, h]; rfl
  unfold lowK
  rw [ht, hd, List.map_append, List.set_append_right _ _ (by simp; omega), List.length_map, List.length_take, show k - min k l.length = 0 by omega, List.set_cons_zero]
  simp
theorem lowK_len (l : List UInt8) (k : Nat) : (lowK l k).length = l.length := by unfold lowK; simp; omega
set_option maxHeartbeats 2000000 in
set_option maxRecDepth 100000 in
theorem lower_any (s : ByteArray) (w : World) (hs : s.size ≤ 1048576) :
    Calls Tryz.prog 72 #[.string s] w fun e w' => e = .returned (.string ⟨(s.data.toList.map lowB).toArray⟩) ∧ Hid (Chg [] w w') := by
  have hsz : s.size = s.data.toList.length := by
    show s.data.size = _
    rw [Array.length_toList]
  have hconv := run_bytes_of_string (P := Tryz.prog) w 9 100 5 s Tryz.underlying9 Tryz.underlying100 Tryz.underlying5
  generalize grownCap w s.size 0 5 = cap at *
  obtain ⟨rest, hrow⟩ : ∃ rest : List Value, bytesRow s cap = (u8s s.data.toList ++ rest).toArray := by
    refine ⟨List.replicate (cap - s.size) (.int .u8 0), ?_⟩
    unfold bytesRow u8s
    apply Array.ext'
    simp
  rw [hrow] at hconv
  have HM := Lib.hid (show MBlk (w.drew.alloc (.cells (u8s s.data.toList ++ rest).toArray 5 ((u8s s.data.toList ++ rest).toArray.size, (u8s s.data.toList ++ rest).toArray.size + 1))) w.heap.size (u8s s.data.toList ++ rest) 5 (((u8s s.data.toList ++ rest).toArray.size, (u8s s.data.toList ++ rest).toArray.size + 1)) from heap_alloc_new w.drew _)
  have HC := Lib.hid ((Chg.refl [] w).drew.alloc (.cells (u8s s.data.toList ++ rest).toArray 5 ((u8s s.data.toList ++ rest).toArray.size, (u8s s.data.toList ++ rest).toArray.size + 1)))
  have hfl : s.size ≤ (u8s s.data.toList ++ rest).toArray.size := by
    rw [List.size_toArray, List.length_append]
    unfold u8s
    rw [List.length_map, ← hsz]
    omega
  generalize (u8s s.data.toList ++ rest).toArray.size = lo at *
  have hz2 : (s.size : Int) ≤ 1048576 := by omega
  generalize w.drew.alloc (.cells (u8s s.data.toList ++ rest).toArray 5 (lo, lo + 1)) = w1 at *
  have hpl : w.heap.size ≤ w.heap.size := Nat.le_refl _
  generalize hp : w.heap.size = p at hconv HM
  have HP := Lib.hid (show w.heap.size ≤ p by omega)
  clear hp hpl hrow
  have HSZ := Lib.hid hsz
  clear hsz
  go_enter Tryz.func72, Tryz.ntmps72
  go_wp2
  go_loopw [10] (fun i wr => ∃ k : Nat, k ≤ s.size ∧ i = .int .i64 k ∧ Hid (MBlk wr p (u8s (lowK s.data.toList k) ++ rest) 5 (lo, lo + 1)) ∧ Hid (Chg [] w wr)) (fun i _ => s.size - (intOf i).toNat)
  case atStart => exact ⟨0, by omega, rfl, Lib.hid (by simpa [lowK] using HM.out), HC⟩
  case round =>
    obtain ⟨k, hk, rfl, HB, HCK⟩ := hrel
    by_cases hlt : k < s.size
    · have hkl : k < s.data.toList.length := by rw [← HSZ.out]; exact hlt
      obtain ⟨c, hc⟩ : ∃ c, s.data.toList[k]? = some c := ⟨_, List.getElem?_eq_getElem hkl⟩
      have hg := lowK_get _ k c hc
      have hlen := lowK_len s.data.toList k
      have cell := HB.out.cell k (.int .u8 (c.toNat : Int)) (by
        rw [List.getElem?_append_left (by unfold u8s; rw [List.length_map, hlen]; exact hkl)]
        unfold u8s
        rw [List.getElem?_map, hg]
        rfl)
      have fr := HB.out.free k (by omega)
      have hb : (c.toNat : Int) ≤ 255 := by have := c.toNat_lt; omega
      have hb0 : (0 : Int) ≤ (c.toNat : Int) := by omega
      have HSUC := Lib.hid (lowK_succ _ k c hc)
      have hlt2 : (k : Int) < (s.size : Int) := by omega
      by_cases h1 : 65 ≤ c.toNat ∧ c.toNat ≤ 90
      · have hl : ((lowB c).toNat : Int) = (c.toNat : Int) + 32 := by
          unfold lowB
          rw [if_pos h1, UInt8.toNat_add]
          have : (32 : UInt8).toNat = 32 := rfl
          rw [this]
          omega
        have HL := Lib.hid hl
        have hn := HB.out.set k (.int .u8 ((c.toNat : Int) + 32))
        have he : (u8s (lowK s.data.toList k) ++ rest).set k (.int .u8 ((c.toNat : Int) + 32)) = u8s (lowK s.data.toList (k + 1)) ++ rest := by
          rw [HSUC.out, List.set_append_left _ _ (by unfold u8s; rw [List.length_map, hlen]; exact hkl), ← hl]
          unfold u8s
          rw [List.map_set]
        rw [he] at hn
        have HN := Lib.hid hn
        have HCN := Lib.hid (HCK.out.setCell (p := ⟨p, k, none⟩) (by have := HP.out; dsimp only; omega) (.int .u8 ((c.toNat : Int) + 32)))
        have a1 : (65 : Int) ≤ (c.toNat : Int) := by omega
        have a2 : (c.toNat : Int) ≤ 90 := by omega
        have hw : IntKind.u8.wrap ((c.toNat : Int) + 32) = (c.toNat : Int) + 32 := by
          unfold IntKind.wrap IntKind.bits IntKind.signed
          simp
          omega
        clear h1 hl hn he hc hg hlen
        generalize (c.toNat : Int) = x at *
        go_wp2
        go_roundw
        case rel => exact ⟨k + 1, by omega, by go_num, HN, HCN⟩
        case measure => simp [intOf]; omega
      · have hl : lowB c = c := by unfold lowB; rw [if_neg h1]
        have hlk : lowK s.data.toList (k + 1) = lowK s.data.toList k := by
          rw [HSUC.out, hl]
          refine List.ext_getElem? (fun i => ?_)
          rw [List.getElem?_set]
          split
          · rename_i e
            subst e
            rw [if_pos (List.getElem?_eq_some_iff.1 hg).1, hg]
          · rfl
        have HLK := Lib.hid hlk
        clear hl hlk hc hg hlen
        by_cases a1 : (65 : Int) ≤ (c.toNat : Int)
        · have a2 : ¬ (c.toNat : Int) ≤ 90 := by omega
          clear h1
          generalize (c.toNat : Int) = x at *
          go_wp2
          go_roundw
          case rel => exact ⟨k + 1, by omega, by go_num, by rw [HLK.out]; exact HB, HCK⟩
          case measure => simp [intOf]; omega
        · clear h1
          generalize (c.toNat : Int) = x at *
          go_wp2
          go_roundw
          case rel => exact ⟨k + 1, by omega, by go_num, by rw [HLK.out]; exact HB, HCK⟩
          case measure => simp [intOf]; omega
    · have e : k = s.size := by omega
      have E1 : lowK s.data.toList k = s.data.toList.map lowB := by
        unfold lowK
        rw [e, HSZ.out, List.take_length, List.drop_length, List.append_nil]
      rw [E1] at HB
      have hback := run_convert_bytes_back (P := Tryz.prog) wr 100 9 5 ⟨p, 0, none⟩ cap (s.data.toList.map lowB) Tryz.underlying100 Tryz.underlying5 Tryz.underlying9 (fun j hj => by
        have := HB.out.cell j (.int .u8 (((s.data.toList.map lowB)[j]).toNat : Int)) (by
          rw [List.getElem?_append_left (by unfold u8s; simpa using hj)]
          unfold u8s
          rw [List.getElem?_map, List.getElem?_eq_getElem hj]
          rfl)
        rw [show (⟨p, 0, none⟩ : Addr).add j = ⟨p, j, none⟩ by unfold Addr.add; split <;> simp [*]]
        exact this)
      rw [List.length_map, ← HSZ.out] at hback
      go_wp2
      go_ret
      exact ⟨rfl, HCK.out⟩
def low (s : ByteArray) : ByteArray := ⟨(s.data.toList.map lowB).toArray⟩
theorem same_any (a b : ByteArray) (w : World) (ha : a.size ≤ 1048576) (hb : b.size ≤ 1048576) (z : Bool) (hz : decide ((low a).toList = (low b).toList) = z) :
    Calls Tryz.prog 68 #[.string a, .string b] w fun e w' => e = .returned (.bool z) ∧ Hid (Chg [] w w') := by
  have HZ := Lib.hid hz
  clear hz
  go_enter Tryz.func68, Tryz.ntmps68
  go_wp2_with fail
  refine (lower_any a _ ha).mono ?_
  rintro e w1 ⟨rfl, H1⟩
  go_wp2_with fail
  refine (lower_any b _ hb).mono ?_
  rintro e w2 ⟨rfl, H2⟩
  have hl1 : (⟨(a.data.toList.map lowB).toArray⟩ : ByteArray) = low a := rfl
  have hl2 : (⟨(b.data.toList.map lowB).toArray⟩ : ByteArray) = low b := rfl
  rw [hl1, hl2]
  clear hl1 hl2
  go_wp2_with fail
  go_ret
  refine ⟨?_, H1.out.trans H2.out (by simp)⟩
  rw [← HZ.out]
  first
  | rfl
  | (congr 2; by_cases h : (low a).toList = (low b).toList <;> simp [h])
end Go.Proofs.YtjndgkbikhndoaaGreatDoor

namespace Go.Proofs.YtjndgkbikhndoaaGreatDoor
open Go.RowKit Go.ChangeShapes Go.WideShapes
set_option linter.unusedVariables false

def hexI (c : Int) : Bool := decide (97 ≤ c ∧ c ≤ 102) || decide (65 ≤ c ∧ c ≤ 70) || decide (48 ≤ c ∧ c ≤ 57)
def alnI (c : Int) : Bool := decide (97 ≤ c ∧ c ≤ 122) || decide (65 ≤ c ∧ c ≤ 90) || decide (48 ≤ c ∧ c ≤ 57)
/-- Is a text of letters, digits, some more bytes, and of % with two hex digits? -/
def madeL (more : List UInt8) : List UInt8 → Bool
  | [] => true
  | c :: r =>
    if alnI c.toNat then madeL more r
    else if c = 37 then
      match r with
      | a :: b :: q => hexI a.toNat && hexI b.toNat && madeL more q
      | _ => false
    else more.contains c && madeL more r
theorem hex_any (c : Int) (w : World) : Calls Tryz.prog 102 #[.int .u8 c] w fun e w' => e = .returned (.bool (hexI c)) ∧ w = w' := by
  by_cases a1 : 97 ≤ c
  · have a2 : (65 : Int) ≤ c := by omega
    have a3 : (48 : Int) ≤ c := by omega
    have a4 : ¬ c ≤ 57 := by omega
    have a5 : ¬ c ≤ 70 := by omega
    by_cases a6 : c ≤ 102
    · skip
      go_enter Tryz.func102, Tryz.ntmps102
      go_wp2
      go_ret
      exact ⟨by unfold hexI; congr 2; simp; omega, rfl⟩
    · skip
      go_enter Tryz.func102, Tryz.ntmps102
      go_wp2
      go_ret
      exact ⟨by unfold hexI; congr 2; simp; omega, rfl⟩
  · by_cases a2 : 65 ≤ c
    · have a3 : (48 : Int) ≤ c := by omega
      have a4 : ¬ c ≤ 57 := by omega
      by_cases a5 : c ≤ 70
      · skip
        go_enter Tryz.func102, Tryz.ntmps102
        go_wp2
        go_ret
        exact ⟨by unfold hexI; congr 2; simp; omega, rfl⟩
      · skip
        go_enter Tryz.func102, Tryz.ntmps102
        go_wp2
        go_ret
        exact ⟨by unfold hexI; congr 2; simp; omega, rfl⟩
    · by_cases a3 : 48 ≤ c
      · by_cases a4 : c ≤ 57
        · skip
          go_enter Tryz.func102, Tryz.ntmps102
          go_wp2
          go_ret
          exact ⟨by unfold hexI; congr 2; simp; omega, rfl⟩
        · skip
          go_enter Tryz.func102, Tryz.ntmps102
          go_wp2
          go_ret
          exact ⟨by unfold hexI; congr 2; simp; omega, rfl⟩
      · skip
        go_enter Tryz.func102, Tryz.ntmps102
        go_wp2
        go_ret
        exact ⟨by unfold hexI; congr 2; simp; omega, rfl⟩
theorem toList_len (s : ByteArray) : s.data.toList.length = s.size := by
  show s.data.toList.length = s.data.size
  rw [Array.length_toList]
theorem toList_get (s : ByteArray) (k : Nat) (h : k < s.size) : s.data.toList[k]? = some (s[k]'h) := by
  rw [List.getElem?_eq_getElem (by rw [toList_len]; exact h)]
  rfl
theorem drop_get {l : List UInt8} {k : Nat} {c : UInt8} (h : l[k]? = some c) : l.drop k = c :: l.drop (k + 1) := by
  obtain ⟨hk, e⟩ := List.getElem?_eq_some_iff.1 h
  rw [← e]
  exact List.drop_eq_getElem_cons hk
theorem made_aln {M : List UInt8} {c : UInt8} {r : List UInt8} (h : alnI c.toNat = true) : madeL M (c :: r) = madeL M r := by
  rw [madeL.eq_def]
  simp only [h, if_true]
theorem made_pct {M r : List UInt8} {a b : UInt8} : madeL M (37 :: a :: b :: r) = (hexI a.toNat && hexI b.toNat && madeL M r) := by
  rw [madeL.eq_def]
  rfl
theorem made_pct1 {M r : List UInt8} (h : r.length < 2) : madeL M (37 :: r) = false := by
  rw [madeL.eq_def]
  match r, h with
  | [], _ => rfl
  | [_], _ => rfl
theorem made_oth {M : List UInt8} {c : UInt8} {r : List UInt8} (h : alnI c.toNat = false) (h2 : c ≠ 37) : madeL M (c :: r) = (M.contains c && madeL M r) := by
  rw [madeL.eq_def]
  simp only [h, if_neg h2, Bool.false_eq_true, if_false]
set_option maxHeartbeats 4000000 in
set_option maxRecDepth 100000 in
theorem made_any (s more : ByteArray) (w : World) (hs : s.size ≤ 1048576) : Calls Tryz.prog 93 #[.string s, .string more] w fun e w' => e = .returned (.bool (madeL more.data.toList s.data.toList)) ∧ w = w' := by
  have hz3 : (s.size : Int) ≤ 1048576 := by omega
  go_enter Tryz.func93, Tryz.ntmps93
  go_wp2
  go_loopw [5] (fun i wr => ∃ k : Nat, k ≤ s.size ∧ i = .int .i64 k ∧ Hid (madeL more.data.toList (s.data.toList.drop k) = madeL more.data.toList s.data.toList) ∧ wr = w) (fun i _ => s.size - (intOf i).toNat)
  case atStart => exact ⟨0, by omega, rfl, Lib.hid rfl, rfl⟩
  case round =>
    obtain ⟨k, hk, rfl, HD, rfl⟩ := hrel
    by_cases hlt : k < s.size
    · have hlt2 : (k : Int) < (s.size : Int) := by omega
      have hcl := toList_get s k hlt
      obtain ⟨c, hc⟩ : ∃ c, s[k]'hlt = c := ⟨_, rfl⟩
      rw [hc] at hcl
      have hb : (c.toNat : Int) ≤ 255 := by have := c.toNat_lt; omega
      by_cases a1 : (97 : Int) ≤ (c.toNat : Int)
      · have a3 : (65 : Int) ≤ (c.toNat : Int) := by omega
        have a4 : (48 : Int) ≤ (c.toNat : Int) := by omega
        have a5 : ¬ (c.toNat : Int) ≤ 90 := by omega
        have a6 : ¬ (c.toNat : Int) ≤ 57 := by omega
        by_cases a2 : (c.toNat : Int) ≤ 122
        · skip
          (have HN := Lib.hid (HD.out.symm.trans (by rw [drop_get hcl, made_aln (by unfold alnI; simp; omega)]) : madeL more.data.toList s.data.toList = madeL more.data.toList (s.data.toList.drop (k + 1)));
           clear hcl HD;
           go_wp2;
           go_roundw;
           case rel => exact ⟨k + 1, by omega, by go_num, Lib.hid HN.out.symm, by first | rfl | trivial⟩;
           case measure => simp [intOf]; omega)
        · skip
          (have hne : ((c.toNat : Int) == 37) = false := beq_eq_false_iff_ne.2 (by omega);
           have hn37 : c ≠ 37 := by (rintro rfl; exact absurd hne (by decide));
           have hx := made_oth (M := more.data.toList) (r := s.data.toList.drop (k + 1)) (by unfold alnI; simp; omega : alnI c.toNat = false) hn37;
           have hback : ((c.toNat : Int)).toNat.toUInt8 = c := by simp;
           have hci := Lib.contains_iff_indexByte more.data.toList c;
           rw [← drop_get hcl, HD.out] at hx;
           clear hcl HD hn37;
           cases hin : more.data.toList.contains c;
           · (rw [hin] at hci hx;
              have hlt0 : Lib.indexByte more.data.toList c < 0 := Int.not_le.1 (of_decide_eq_false hci.symm);
              have HX := Lib.hid hx;
              clear hci hx hin;
              go_wp2_with (go_at_call 119; (with_reducible refine (Tryz.strings_IndexByte more _ _).mono ?_); rintro e w' ⟨rfl, rfl⟩; rw [hback]);
              go_ret;
              exact ⟨by rw [HX.out]; rfl, rfl⟩)
           · (rw [hin] at hci hx;
              have hge : ¬ Lib.indexByte more.data.toList c < 0 := Int.not_lt.2 (of_decide_eq_true hci.symm);
              have HX := Lib.hid hx;
              clear hci hx hin;
              go_wp2_with (go_at_call 119; (with_reducible refine (Tryz.strings_IndexByte more _ _).mono ?_); rintro e w' ⟨rfl, rfl⟩; rw [hback]);
              go_roundw;
              case rel => exact ⟨k + 1, by omega, by go_num, Lib.hid (by rw [HX.out, Bool.true_and]), by first | rfl | trivial⟩;
              case measure => simp [intOf]; omega))
      · by_cases a3 : (65 : Int) ≤ (c.toNat : Int)
        · have a4 : (48 : Int) ≤ (c.toNat : Int) := by omega
          have a6 : ¬ (c.toNat : Int) ≤ 57 := by omega
          by_cases a2 : (c.toNat : Int) ≤ 90
          · skip
            (have HN := Lib.hid (HD.out.symm.trans (by rw [drop_get hcl, made_aln (by unfold alnI; simp; omega)]) : madeL more.data.toList s.data.toList = madeL more.data.toList (s.data.toList.drop (k + 1)));
             clear hcl HD;
             go_wp2;
             go_roundw;
             case rel => exact ⟨k + 1, by omega, by go_num, Lib.hid HN.out.symm, by first | rfl | trivial⟩;
             case measure => simp [intOf]; omega)
          · skip
            (have hne : ((c.toNat : Int) == 37) = false := beq_eq_false_iff_ne.2 (by omega);
             have hn37 : c ≠ 37 := by (rintro rfl; exact absurd hne (by decide));
             have hx := made_oth (M := more.data.toList) (r := s.data.toList.drop (k + 1)) (by unfold alnI; simp; omega : alnI c.toNat = false) hn37;
             have hback : ((c.toNat : Int)).toNat.toUInt8 = c := by simp;
             have hci := Lib.contains_iff_indexByte more.data.toList c;
             rw [← drop_get hcl, HD.out] at hx;
             clear hcl HD hn37;
             cases hin : more.data.toList.contains c;
             · (rw [hin] at hci hx;
                have hlt0 : Lib.indexByte more.data.toList c < 0 := Int.not_le.1 (of_decide_eq_false hci.symm);
                have HX := Lib.hid hx;
                clear hci hx hin;
                go_wp2_with (go_at_call 119; (with_reducible refine (Tryz.strings_IndexByte more _ _).mono ?_); rintro e w' ⟨rfl, rfl⟩; rw [hback]);
                go_ret;
                exact ⟨by rw [HX.out]; rfl, rfl⟩)
             · (rw [hin] at hci hx;
                have hge : ¬ Lib.indexByte more.data.toList c < 0 := Int.not_lt.2 (of_decide_eq_true hci.symm);
                have HX := Lib.hid hx;
                clear hci hx hin;
                go_wp2_with (go_at_call 119; (with_reducible refine (Tryz.strings_IndexByte more _ _).mono ?_); rintro e w' ⟨rfl, rfl⟩; rw [hback]);
                go_roundw;
                case rel => exact ⟨k + 1, by omega, by go_num, Lib.hid (by rw [HX.out, Bool.true_and]), by first | rfl | trivial⟩;
                case measure => simp [intOf]; omega))
        · by_cases a4 : (48 : Int) ≤ (c.toNat : Int)
          · by_cases a2 : (c.toNat : Int) ≤ 57
            · skip
              (have HN := Lib.hid (HD.out.symm.trans (by rw [drop_get hcl, made_aln (by unfold alnI; simp; omega)]) : madeL more.data.toList s.data.toList = madeL more.data.toList (s.data.toList.drop (k + 1)));
               clear hcl HD;
               go_wp2;
               go_roundw;
               case rel => exact ⟨k + 1, by omega, by go_num, Lib.hid HN.out.symm, by first | rfl | trivial⟩;
               case measure => simp [intOf]; omega)
            · skip
              (have hne : ((c.toNat : Int) == 37) = false := beq_eq_false_iff_ne.2 (by omega);
               have hn37 : c ≠ 37 := by (rintro rfl; exact absurd hne (by decide));
               have hx := made_oth (M := more.data.toList) (r := s.data.toList.drop (k + 1)) (by unfold alnI; simp; omega : alnI c.toNat = false) hn37;
               have hback : ((c.toNat : Int)).toNat.toUInt8 = c := by simp;
               have hci := Lib.contains_iff_indexByte more.data.toList c;
               rw [← drop_get hcl, HD.out] at hx;
               clear hcl HD hn37;
               cases hin : more.data.toList.contains c;
               · (rw [hin] at hci hx;
                  have hlt0 : Lib.indexByte more.data.toList c < 0 := Int.not_le.1 (of_decide_eq_false hci.symm);
                  have HX := Lib.hid hx;
                  clear hci hx hin;
                  go_wp2_with (go_at_call 119; (with_reducible refine (Tryz.strings_IndexByte more _ _).mono ?_); rintro e w' ⟨rfl, rfl⟩; rw [hback]);
                  go_ret;
                  exact ⟨by rw [HX.out]; rfl, rfl⟩)
               · (rw [hin] at hci hx;
                  have hge : ¬ Lib.indexByte more.data.toList c < 0 := Int.not_lt.2 (of_decide_eq_true hci.symm);
                  have HX := Lib.hid hx;
                  clear hci hx hin;
                  go_wp2_with (go_at_call 119; (with_reducible refine (Tryz.strings_IndexByte more _ _).mono ?_); rintro e w' ⟨rfl, rfl⟩; rw [hback]);
                  go_roundw;
                  case rel => exact ⟨k + 1, by omega, by go_num, Lib.hid (by rw [HX.out, Bool.true_and]), by first | rfl | trivial⟩;
                  case measure => simp [intOf]; omega))
          · by_cases a2 : c = 37
            · subst a2
              by_cases h3 : k + 2 < s.size
              · have g1 := toList_get s (k + 1) (by omega)
                have g2 := toList_get s (k + 2) h3
                obtain ⟨x, hx⟩ : ∃ x, s[k + 1]'(by omega) = x := ⟨_, rfl⟩
                obtain ⟨y, hy⟩ : ∃ y, s[k + 2]'h3 = y := ⟨_, rfl⟩
                rw [hx] at g1
                rw [hy] at g2
                have hp := made_pct (M := more.data.toList) (r := s.data.toList.drop (k + 3)) (a := x) (b := y)
                rw [show k + 3 = k + 2 + 1 from rfl, ← drop_get g2, ← drop_get g1, ← drop_get hcl, HD.out] at hp
                have hlt3 : ¬ (s.size : Int) ≤ (k : Int) + 2 := by omega
                clear hcl g1 g2
                cases q1 : hexI x.toNat
                · rw [q1] at hp
                  have HP := Lib.hid hp
                  clear hp
                  have HX : ∀ w, Calls Tryz.prog 102 #[.int .u8 x.toNat] w fun e w' => e = .returned (.bool false) ∧ w = w' := fun w => by rw [← q1]; exact hex_any _ w
                  clear q1
                  go_wp2_with (go_at_call 102; (with_reducible refine (HX _).mono ?_); rintro e w' ⟨rfl, rfl⟩)
                  go_ret
                  exact ⟨by rw [HP.out]; rfl, rfl⟩
                · have HX : ∀ w, Calls Tryz.prog 102 #[.int .u8 x.toNat] w fun e w' => e = .returned (.bool true) ∧ w = w' := fun w => by rw [← q1]; exact hex_any _ w
                  cases q2 : hexI y.toNat
                  · rw [q1, q2] at hp
                    have HP := Lib.hid hp
                    clear hp
                    have HY : ∀ w, Calls Tryz.prog 102 #[.int .u8 y.toNat] w fun e w' => e = .returned (.bool false) ∧ w = w' := fun w => by rw [← q2]; exact hex_any _ w
                    clear q1 q2
                    go_wp2_with (go_at_call 102; first | ((with_reducible refine (HX _).mono ?_); rintro e w' ⟨rfl, rfl⟩) | ((with_reducible refine (HY _).mono ?_); rintro e w' ⟨rfl, rfl⟩))
                    go_ret
                    exact ⟨by rw [HP.out]; rfl, rfl⟩
                  · rw [q1, q2] at hp
                    have HP := Lib.hid hp
                    clear hp
                    have HY : ∀ w, Calls Tryz.prog 102 #[.int .u8 y.toNat] w fun e w' => e = .returned (.bool true) ∧ w = w' := fun w => by rw [← q2]; exact hex_any _ w
                    clear q1 q2
                    go_wp2_with (go_at_call 102; first | ((with_reducible refine (HX _).mono ?_); rintro e w' ⟨rfl, rfl⟩) | ((with_reducible refine (HY _).mono ?_); rintro e w' ⟨rfl, rfl⟩))
                    go_roundw
                    case rel => exact ⟨k + 3, by omega, by go_num, Lib.hid (by rw [HP.out]; rfl), by first | rfl | trivial⟩
                    case measure => simp [intOf]; omega
              · have hp := made_pct1 (M := more.data.toList) (r := s.data.toList.drop (k + 1)) (by rw [List.length_drop, toList_len]; omega)
                rw [← drop_get hcl, HD.out] at hp
                have HP := Lib.hid hp
                have hge3 : (s.size : Int) ≤ (k : Int) + 2 := by omega
                clear hcl hp
                go_wp2
                go_ret
                exact ⟨by rw [HP.out]; rfl, rfl⟩
            · have hn : (c.toNat : Int) ≠ 37 := by
                intro h
                refine a2 (UInt8.toNat_inj.1 ?_)
                have : (37 : UInt8).toNat = 37 := rfl
                omega
              skip
              (have hne : ((c.toNat : Int) == 37) = false := beq_eq_false_iff_ne.2 (by omega);
               have hn37 : c ≠ 37 := by (rintro rfl; exact absurd hne (by decide));
               have hx := made_oth (M := more.data.toList) (r := s.data.toList.drop (k + 1)) (by unfold alnI; simp; omega : alnI c.toNat = false) hn37;
               have hback : ((c.toNat : Int)).toNat.toUInt8 = c := by simp;
               have hci := Lib.contains_iff_indexByte more.data.toList c;
               rw [← drop_get hcl, HD.out] at hx;
               clear hcl HD hn37;
               cases hin : more.data.toList.contains c;
               · (rw [hin] at hci hx;
                  have hlt0 : Lib.indexByte more.data.toList c < 0 := Int.not_le.1 (of_decide_eq_false hci.symm);
                  have HX := Lib.hid hx;
                  clear hci hx hin;
                  go_wp2_with (go_at_call 119; (with_reducible refine (Tryz.strings_IndexByte more _ _).mono ?_); rintro e w' ⟨rfl, rfl⟩; rw [hback]);
                  go_ret;
                  exact ⟨by rw [HX.out]; rfl, rfl⟩)
               · (rw [hin] at hci hx;
                  have hge : ¬ Lib.indexByte more.data.toList c < 0 := Int.not_lt.2 (of_decide_eq_true hci.symm);
                  have HX := Lib.hid hx;
                  clear hci hx hin;
                  go_wp2_with (go_at_call 119; (with_reducible refine (Tryz.strings_IndexByte more _ _).mono ?_); rintro e w' ⟨rfl, rfl⟩; rw [hback]);
                  go_roundw;
                  case rel => exact ⟨k + 1, by omega, by go_num, Lib.hid (by rw [HX.out, Bool.true_and]), by first | rfl | trivial⟩;
                  case measure => simp [intOf]; omega))
    · obtain rfl : k = s.size := by omega
      have HM := Lib.hid (HD.out.symm.trans (by rw [← toList_len, List.drop_length]; rfl) : madeL more.data.toList s.data.toList = true)
      go_wp2
      go_ret
      exact ⟨by rw [HM.out]; rfl, rfl⟩
end Go.Proofs.YtjndgkbikhndoaaGreatDoor

namespace Go.Proofs.YtjndgkbikhndoaaGreatDoor
open Go.RowKit Go.ChangeShapes Go.WideShapes
set_option linter.unusedVariables false

/-- What the walks ask of the variables: that they hold something of their kind. -/
def Env (w : World) : Prop := (∃ m, w.cell? ⟨0, 0, none⟩ = some (.int .i64 m)) ∧ (∃ tp p, w.cell? ⟨1, 0, none⟩ = some (.iface tp p))
theorem Env.chg {w w' : World} (h : Env w) (hc : Chg [] w w') : Env w' := by
  obtain ⟨⟨m, h1⟩, ⟨tp, p, h2⟩⟩ := h
  exact ⟨⟨m, hc.cell h1 (by simp)⟩, ⟨tp, p, hc.cell h2 (by simp)⟩⟩
/-- The number that digits say, from n on; big: it is too great. -/
def numGo (n : Nat) (big : Bool) : List UInt8 → Int × Int
  | [] => if big then (0, 51) else (n, 0)
  | c :: r =>
    if 48 ≤ c.toNat ∧ c.toNat ≤ 57 then
      (if big then numGo n true r else numGo (n * 10 + (c.toNat - 48)) (decide (9007199254740992 < n * 10 + (c.toNat - 48))) r)
    else (0, 50)
def numF (l : List UInt8) : Int × Int := if l = [] then (0, 50) else numGo 0 false l
theorem puB_dig {c : UInt8} (h : 48 ≤ c.toNat ∧ c.toNat ≤ 57) : Lib.parseUintB 8 [c] = .ok (c.toNat - 48) := by
  unfold Lib.parseUintB
  rw [if_neg (by simp), Lib.parseUintM.eq_def]
  simp only [h, and_self, if_true]
  rw [if_neg (by omega), if_neg (by omega), Lib.parseUintM.eq_def]
  simp
theorem puB_no {c : UInt8} (h : ¬ (48 ≤ c.toNat ∧ c.toNat ≤ 57)) : Lib.parseUintB 8 [c] = Lib.parseUintB 8 [] := by
  unfold Lib.parseUintB
  rw [if_neg (by simp), if_pos rfl, Lib.parseUintM.eq_def]
  simp only [if_neg h]
theorem bytesWorld_chg (w : World) (s : ByteArray) : Chg [] w (Lib.bytesWorld w 5 s) := Chg.of_below (Lib.bytesWorld_below _ _ _)
/-- One byte of a text, as a text. -/
theorem one_text (s : ByteArray) (k : Nat) (c : UInt8) (h : s.data.toList[k]? = some c) : s.extract k (k + 1) = ⟨#[c]⟩ := by
  have hl : (s.extract k (k + 1)).data.toList = [c] := by
    obtain ⟨hk, e⟩ := List.getElem?_eq_some_iff.1 h
    rw [ByteArray.data_extract, Array.toList_extract, List.extract_eq_take_drop, show k + 1 - k = 1 by omega, List.drop_eq_getElem_cons hk, e]
    rfl
  cases hq : s.extract k (k + 1) with
  | mk d =>
    rw [hq] at hl
    have : d = #[c] := by
      apply Array.ext'
      exact hl
    rw [this]
theorem slice_run (s : ByteArray) (a b : Nat) (w : World) (h : a ≤ b) (hb : b ≤ s.size) : (Instr.slice 9 (.string s) (some (.int .i64 (a : Int))) (some (.int .i64 (b : Int))) none).run Tryz.prog w = .ok (.string (s.extract a b)) w := by
  have := run_slice_string (P := Tryz.prog) w 9 s .i64 .i64 (a : Int) (b : Int) Tryz.underlying9 (by omega) (by omega) (by omega)
  rw [Int.toNat_natCast, Int.toNat_natCast] at this
  exact this
theorem num_dig0 {n : Nat} {c : UInt8} {r : List UInt8} (h : 48 ≤ c.toNat ∧ c.toNat ≤ 57) : numGo n false (c :: r) = numGo (n * 10 + (c.toNat - 48)) (decide (9007199254740992 < n * 10 + (c.toNat - 48))) r := by
  rw [numGo.eq_def]
  simp only [h, and_self, if_true, Bool.false_eq_true, if_false]
theorem num_dig1 {n : Nat} {c : UInt8} {r : List UInt8} (h : 48 ≤ c.toNat ∧ c.toNat ≤ 57) : numGo n true (c :: r) = numGo n true r := by
  rw [numGo.eq_def]
  simp only [h, and_self, if_true]
theorem num_no {n : Nat} {b : Bool} {c : UInt8} {r : List UInt8} (h : ¬ (48 ≤ c.toNat ∧ c.toNat ≤ 57)) : numGo n b (c :: r) = (0, 50) := by
  rw [numGo.eq_def]
  simp only [if_neg h]
theorem drewN_chg (w : World) (n : Nat) : Chg [] w (w.drewN n) := (Chg.refl [] w).drewN n
set_option maxHeartbeats 4000000 in
set_option maxRecDepth 100000 in
theorem digits_any (s : ByteArray) (w : World) (hs : s.size ≤ 1048576) (hE : Hid (Env w)) (a b : Int) (hab : numF s.data.toList = (a, b)) :
    Calls Tryz.prog 103 #[.string s, .int .i64 10] w fun e w' => e = .returned (.tuple #[.int .i64 a, .int .i64 b]) ∧ Hid (Chg [] w w') := by
  have hz3 : (s.size : Int) ≤ 1048576 := by omega
  have HAB := Lib.hid hab
  clear hab
  go_enter Tryz.func103, Tryz.ntmps103
  go_wp2
  go_loopw [6, 7, 13] (fun nv bv i wr => ∃ k n : Nat, ∃ bg : Bool, k ≤ s.size ∧ n ≤ 90071992547409929 ∧ (bg = false → n ≤ 9007199254740992) ∧ nv = .int .i64 n ∧ bv = .bool bg ∧ i = .int .i64 k ∧ Hid (numGo n bg (s.data.toList.drop k) = numGo 0 false s.data.toList) ∧ Hid (Chg [] w wr)) (fun _ _ i _ => s.size - (intOf i).toNat)
  case atStart => exact ⟨0, 0, false, by omega, by omega, by omega, rfl, rfl, rfl, Lib.hid rfl, Chg.refl _ _⟩
  case round =>
    obtain ⟨k, n, bg, hk, hn, hnb, rfl, rfl, rfl, HD, HC⟩ := hrel
    by_cases hlt : k < s.size
    · have hlt2 : (k : Int) < (s.size : Int) := by omega
      have hcl := toList_get s k hlt
      obtain ⟨c, hc⟩ : ∃ c, s[k]'hlt = c := ⟨_, rfl⟩
      rw [hc] at hcl
      have hb : (c.toNat : Int) ≤ 255 := by have := c.toNat_lt; omega
      have HT := Lib.hid (one_text s k c hcl)
      have hsl := fun W => slice_run s k (k + 1) W (by omega) (by omega)
      rw [show ((k + 1 : Nat) : Int) = (k : Int) + 1 by omega, HT.out] at hsl
      have h1 : (⟨#[c]⟩ : ByteArray).size = 1 := rfl
      obtain ⟨⟨m, e1⟩, ⟨tp, p, e2⟩⟩ := hE.out.chg HC.out
      by_cases hd : 48 ≤ c.toNat ∧ c.toNat ≤ 57
      · have HP := Lib.hid (Tryz.strconv_ParseUint_10_at8_ok ⟨#[c]⟩ (by omega) (c.toNat - 48) (puB_dig hd) wr)
        obtain ⟨d, hdd⟩ : ∃ d, c.toNat - 48 = d := ⟨_, rfl⟩
        have hd9 : d ≤ 9 := by omega
        cases bg
        · have hx := num_dig0 (n := n) (r := s.data.toList.drop (k + 1)) hd
          rw [← drop_get hcl, HD.out, hdd] at hx
          rw [hdd] at HP
          have HX := Lib.hid hx
          have hn2 : n ≤ 9007199254740992 := hnb rfl
          clear hx hnb hd hcl HT h1 e1 e2
          go_wp2_with fail
          refine HP.out.mono ?_
          rintro e w2 ⟨rfl, H2⟩
          have HC2 := Lib.hid (HC.out.trans (show Chg [] wr w2 from by
            rcases H2 with rfl | rfl
            · exact Chg.refl _ _
            · exact bytesWorld_chg _ _) (by simp))
          clear H2
          go_wp2
          go_roundw
          case rel => exact ⟨k + 1, n * 10 + d, decide (9007199254740992 < n * 10 + d), by omega, by omega, fun h => Nat.not_lt.1 (of_decide_eq_false h), by go_num, by congr 1; exact decide_eq_decide.2 (by omega), by go_num, Lib.hid HX.out.symm, HC2⟩
          case measure => simp [intOf]; omega
        · have hx := num_dig1 (n := n) (r := s.data.toList.drop (k + 1)) hd
          rw [← drop_get hcl, HD.out] at hx
          rw [hdd] at HP
          have HX := Lib.hid hx
          clear hx hnb hd hcl HT h1 e1 e2
          go_wp2_with fail
          refine HP.out.mono ?_
          rintro e w2 ⟨rfl, H2⟩
          have HC2 := Lib.hid (HC.out.trans (show Chg [] wr w2 from by
            rcases H2 with rfl | rfl
            · exact Chg.refl _ _
            · exact bytesWorld_chg _ _) (by simp))
          clear H2
          go_wp2
          go_roundw
          case rel => exact ⟨k + 1, n, true, by omega, by omega, fun h => by simp at h, rfl, rfl, by go_num, Lib.hid HX.out.symm, HC2⟩
          case measure => simp [intOf]; omega
      · have HP := Lib.hid (Tryz.strconv_ParseUint_10_at8_syntax ⟨#[c]⟩ (by omega) (puB_no hd) _ wr e2 (.inr ⟨_, _, rfl⟩))
        have hx := num_no (n := n) (b := bg) (r := s.data.toList.drop (k + 1)) hd
        rw [← drop_get hcl, HD.out] at hx
        have hne : s.data.toList ≠ [] := by
          intro h
          rw [h] at hcl
          simp at hcl
        have hab := HAB.out
        unfold numF at hab
        rw [if_neg hne, hx] at hab
        injection hab with q1 q2
        subst q1 q2
        clear hx hnb hd hcl HT h1 e1 e2 hne
        go_wp2_with fail
        refine HP.out.mono ?_
        rintro e w2 ⟨N, rfl, -, -, H2⟩
        have HC2 := Lib.hid (HC.out.trans (Chg.of_below H2) (by simp))
        clear H2
        go_wp2
        go_ret2
        exact ⟨rfl, HC2.out⟩
    · obtain rfl : k = s.size := by omega
      have hx := HD.out
      rw [← toList_len, List.drop_length] at hx
      have hab := HAB.out
      unfold numF at hab
      by_cases h0 : s.size = 0
      · have hn0 : s.data.toList = [] := List.eq_nil_of_length_eq_zero (by rw [toList_len]; exact h0)
        rw [if_pos hn0] at hab
        injection hab with q1 q2
        subst q1 q2
        have he : s.toList.isEmpty = true := by rw [Lib.toList_data, hn0]; rfl
        clear hx hn0
        go_wp2
        go_ret2
        exact ⟨rfl, HC.out⟩
      · have hn0 : s.data.toList ≠ [] := by
          intro h
          rw [← toList_len, h] at h0
          exact h0 rfl
        rw [if_neg hn0, ← hx] at hab
        have he : s.toList.isEmpty = false := by rw [Lib.toList_data]; exact List.isEmpty_eq_false_iff.2 hn0
        clear hx hn0
        cases bg
        · obtain ⟨q1, q2⟩ := Prod.mk.inj (show ((n : Int), (0 : Int)) = (a, b) from hab)
          subst q1 q2
          clear hab
          go_wp2
          go_ret2
          exact ⟨rfl, HC.out⟩
        · obtain ⟨q1, q2⟩ := Prod.mk.inj (show ((0 : Int), (51 : Int)) = (a, b) from hab)
          subst q1 q2
          clear hab
          go_wp2
          go_ret2
          exact ⟨rfl, HC.out⟩
end Go.Proofs.YtjndgkbikhndoaaGreatDoor

namespace Go.Proofs.YtjndgkbikhndoaaGreatDoor
open Go.RowKit Go.ChangeShapes Go.WideShapes
set_option linter.unusedVariables false

theorem number_any (s : ByteArray) (w : World) (hs : s.size ≤ 1048576) (hE : Hid (Env w)) (a b : Int) (hab : numF s.data.toList = (a, b)) :
    Calls Tryz.prog 73 #[.string s] w fun e w' => e = .returned (.tuple #[.int .i64 a, .int .i64 b]) ∧ Hid (Chg [] w w') := by
  have HAB := Lib.hid hab
  clear hab
  go_enter Tryz.func73, Tryz.ntmps73
  go_wp2_with fail
  refine (digits_any s _ hs hE a b HAB.out).mono ?_
  rintro e w2 ⟨rfl, H2⟩
  go_wp2
  go_ret2
  exact ⟨rfl, H2.out⟩
/-- Is a rune no letter of a host between brackets? -/
def badR (r : Nat) : Bool := decide (127 < r) || (!hexI (r : Int) && (decide (r ≠ 58) && decide (r ≠ 46)))
theorem bad_any (r : Nat) (w : World) (hr : r ≤ 1114111) : Calls Tryz.prog 101 #[.int .i32 (r : Int)] w fun e w' => e = .returned (.bool (badR r)) ∧ w = w' := by
  by_cases h1 : 127 < r
  · have h2 : (127 : Int) < (r : Int) := by omega
    have HB := Lib.hid (show badR r = true from by unfold badR; rw [decide_eq_true h1]; rfl)
    go_enter Tryz.func101, Tryz.ntmps101
    go_wp2
    go_ret
    exact ⟨by rw [HB.out]; rfl, rfl⟩
  · have h2 : ¬ (127 : Int) < (r : Int) := by omega
    have hw : IntKind.u8.wrap (r : Int) = (r : Int) := by
      unfold IntKind.wrap IntKind.bits IntKind.signed
      simp
      omega
    have hd : decide (127 < r) = false := decide_eq_false h1
    cases q : hexI (r : Int)
    · have HX : ∀ w, Calls Tryz.prog 102 #[.int .u8 (r : Int)] w fun e w' => e = .returned (.bool false) ∧ w = w' := fun w => by rw [← q]; exact hex_any _ w
      by_cases h3 : r = 58
      · have HB := Lib.hid (show badR r = false from by rw [h3]; decide)
        have h4 : ((r : Int) == 58) = true := beq_iff_eq.2 (by omega)
        have h7 : ((r : Int) != 58) = false := by unfold bne; rw [h4]; rfl
        clear q hd h3 h4
        generalize (r : Int) = x at *
        go_enter Tryz.func101, Tryz.ntmps101
        go_wp2_with (go_at_call 102; (with_reducible refine (HX _).mono ?_); rintro e w' ⟨rfl, rfl⟩)
        go_ret
        exact ⟨by rw [HB.out]; first | rfl | simp [h7], rfl⟩
      · have h4 : ((r : Int) == 58) = false := beq_eq_false_iff_ne.2 (by omega)
        have h7 : ((r : Int) != 58) = true := by unfold bne; rw [h4]; rfl
        by_cases h5 : r = 46
        · have HB := Lib.hid (show badR r = false from by rw [h5]; decide)
          have h6 : ((r : Int) == 46) = true := beq_iff_eq.2 (by omega)
          have h8 : ((r : Int) != 46) = false := by unfold bne; rw [h6]; rfl
          clear q hd h3 h5 h4 h6
          generalize (r : Int) = x at *
          go_enter Tryz.func101, Tryz.ntmps101
          go_wp2_with (go_at_call 102; (with_reducible refine (HX _).mono ?_); rintro e w' ⟨rfl, rfl⟩)
          go_ret
          exact ⟨by rw [HB.out]; first | rfl | simp [h7, h8], rfl⟩
        · have h6 : ((r : Int) == 46) = false := beq_eq_false_iff_ne.2 (by omega)
          have h8 : ((r : Int) != 46) = true := by unfold bne; rw [h6]; rfl
          have HB := Lib.hid (show badR r = true from by unfold badR; rw [q, decide_eq_true h3, decide_eq_true h5]; simp)
          clear q hd h3 h5 h4 h6
          generalize (r : Int) = x at *
          go_enter Tryz.func101, Tryz.ntmps101
          go_wp2_with (go_at_call 102; (with_reducible refine (HX _).mono ?_); rintro e w' ⟨rfl, rfl⟩)
          go_ret
          exact ⟨by rw [HB.out]; first | rfl | simp [h7, h8], rfl⟩
    · have HX : ∀ w, Calls Tryz.prog 102 #[.int .u8 (r : Int)] w fun e w' => e = .returned (.bool true) ∧ w = w' := fun w => by rw [← q]; exact hex_any _ w
      have HB := Lib.hid (show badR r = false from by unfold badR; rw [q, hd]; rfl)
      clear q hd
      go_enter Tryz.func101, Tryz.ntmps101
      go_wp2_with (go_at_call 102; (with_reducible refine (HX _).mono ?_); rintro e w' ⟨rfl, rfl⟩)
      go_ret
      exact ⟨by rw [HB.out]; rfl, rfl⟩
def hostMore : List UInt8 := [45, 46, 95, 126, 33, 36, 38, 39, 40, 41, 42, 43, 59, 61]
/-- Is a text a host? -/
def hostL (l : List UInt8) : Bool :=
  if Lib.hasPrefix l [91] then
    Lib.hasSuffix (Lib.trimPrefix l [91]) [93] && (!(Lib.trimSuffix (Lib.trimPrefix l [91]) [93]).isEmpty && decide (Lib.idxFunc badR true ⟨(Lib.trimSuffix (Lib.trimPrefix l [91]) [93]).toArray⟩ < 0))
  else !l.isEmpty && (decide (l.length ≤ 255) && madeL hostMore l)
theorem trimP_len (l p : List UInt8) : (Lib.trimPrefix l p).length ≤ l.length := by
  unfold Lib.trimPrefix
  split
  · rw [List.length_drop]; omega
  · exact Nat.le_refl _
theorem enter36 : ∀ args w, (callFunc 101 args).run Tryz.prog w = .ok (.enter 101 args) w := enters_of Tryz.func101 (by kernel_rfl) rfl
set_option maxHeartbeats 4000000 in
set_option maxRecDepth 100000 in
theorem host_any (s : ByteArray) (w : World) (hs : s.size ≤ 1048576) (z : Bool) (hz : hostL s.data.toList = z) :
    Calls Tryz.prog 71 #[.string s] w fun e w' => e = .returned (.bool z) ∧ Hid (Chg [] w w') := by
  have hz3 : (s.size : Int) ≤ 1048576 := by omega
  have HZ := Lib.hid hz
  clear hz
  cases h1 : Lib.hasPrefix s.data.toList [91]
  · have hz := HZ.out
    unfold hostL at hz
    rw [h1, if_neg (by decide), toList_len] at hz
    have hte : s.toList = s.data.toList := Lib.toList_data s
    rw [← hte] at hz
    have HP := Lib.hid (Tryz.strings_CutPrefix s ⟨#[91]⟩)
    rw [show (⟨#[91]⟩ : ByteArray).data.toList = [91] from rfl, h1] at HP
    generalize (⟨(Lib.trimPrefix s.data.toList [91]).toArray⟩ : ByteArray) = s1 at HP
    have HM := Lib.hid (fun w => made_any s ⟨#[45, 46, 95, 126, 33, 36, 38, 39, 40, 41, 42, 43, 59, 61]⟩ w hs)
    rw [show (⟨#[45, 46, 95, 126, 33, 36, 38, 39, 40, 41, 42, 43, 59, 61]⟩ : ByteArray).data.toList = hostMore from rfl, ← hte] at HM
    generalize madeL hostMore s.toList = mm at hz HM
    clear h1 HZ hte
    cases he : s.toList.isEmpty
    · rw [he] at hz
      by_cases hl : s.size ≤ 255
      · have hl2 : (s.size : Int) ≤ 255 := by omega
        rw [decide_eq_true hl] at hz
        have hz' : mm = z := hz
        subst hz'
        clear hz hl
        go_enter Tryz.func71, Tryz.ntmps71
        go_wp2_with (first | (go_at_call 30; (with_reducible refine (HP.out _).mono ?_); rintro e w' ⟨rfl, rfl⟩) | (go_at_call 93; (with_reducible refine (HM.out _).mono ?_); rintro e w' ⟨rfl, rfl⟩))
        go_ret
        exact ⟨rfl, Chg.refl _ _⟩
      · have hl2 : ¬ (s.size : Int) ≤ 255 := by omega
        rw [decide_eq_false hl] at hz
        have hz' : false = z := hz
        subst hz'
        clear hz hl
        go_enter Tryz.func71, Tryz.ntmps71
        go_wp2_with (first | (go_at_call 30; (with_reducible refine (HP.out _).mono ?_); rintro e w' ⟨rfl, rfl⟩) | (go_at_call 93; (with_reducible refine (HM.out _).mono ?_); rintro e w' ⟨rfl, rfl⟩))
        go_ret
        exact ⟨rfl, Chg.refl _ _⟩
    · rw [he] at hz
      have hz' : false = z := hz
      subst hz'
      clear hz
      go_enter Tryz.func71, Tryz.ntmps71
      go_wp2_with (first | (go_at_call 30; (with_reducible refine (HP.out _).mono ?_); rintro e w' ⟨rfl, rfl⟩) | (go_at_call 93; (with_reducible refine (HM.out _).mono ?_); rintro e w' ⟨rfl, rfl⟩))
      go_ret
      exact ⟨rfl, Chg.refl _ _⟩
  · have hz := HZ.out
    unfold hostL at hz
    rw [h1, if_pos rfl] at hz
    have hl := trimP_len s.data.toList [91]
    rw [toList_len] at hl
    have HP := Lib.hid (Tryz.strings_CutPrefix s ⟨#[91]⟩)
    rw [show (⟨#[91]⟩ : ByteArray).data.toList = [91] from rfl, h1] at HP
    generalize Lib.trimPrefix s.data.toList [91] = l1 at hz hl HP
    obtain ⟨s1, hs1⟩ : ∃ s1 : ByteArray, (⟨l1.toArray⟩ : ByteArray) = s1 := ⟨_, rfl⟩
    have e1 : l1 = s1.data.toList := by rw [← hs1]
    have HQ := Lib.hid (fun w => Tryz.strings_CutSuffix s1 ⟨#[93]⟩ w (by rw [← toList_len, ← e1]; omega))
    rw [show (⟨#[93]⟩ : ByteArray).data.toList = [93] from rfl, ← e1] at HQ
    rw [hs1] at HP
    generalize Lib.trimSuffix l1 [93] = l2 at hz HQ
    obtain ⟨s2, hs2⟩ : ∃ s2 : ByteArray, (⟨l2.toArray⟩ : ByteArray) = s2 := ⟨_, rfl⟩
    have e2 : s2.toList = l2 := by rw [Lib.toList_data, ← hs2]
    rw [hs2] at HQ hz
    generalize Lib.hasSuffix l1 [93] = ok at hz HQ
    have HF := Lib.hid (fun w => Tryz.strings_IndexFunc_grows 101 #[] enter36 badR s2 w (fun W x hx _ => (bad_any x W hx).mono (fun e w' h => ⟨h.1, by rw [← h.2]; exact Below.refl _ _⟩)))
    generalize Lib.idxFunc badR true s2 = ix at hz HF
    rw [← e2] at hz
    clear e1 e2 hs1 hs2
    go_enter Tryz.func71, Tryz.ntmps71
    go_wp2_with (first | (go_at_call 30; (with_reducible refine (HP.out _).mono ?_); rintro e w' ⟨rfl, rfl⟩) | (go_at_call 99; (with_reducible refine (HQ.out _).mono ?_); rintro e w' ⟨rfl, rfl⟩))
    refine (HF.out _).mono ?_
    rintro e w2 ⟨rfl, H2⟩
    have HC2 := Lib.hid (Chg.of_below H2)
    clear H2 HF HP HQ HZ
    cases ok
    · have HZ := Lib.hid hz
      clear hz
      go_wp2
      go_ret
      exact ⟨by rw [← HZ.out]; first | rfl | simp, HC2.out⟩
    · cases he : s2.toList.isEmpty
      · rw [he] at hz
        have hz' : decide (ix < 0) = z := hz
        have HZ := Lib.hid hz'
        clear hz hz'
        go_wp2
        go_ret
        exact ⟨by rw [← HZ.out]; first | rfl | simp, HC2.out⟩
      · rw [he] at hz
        have HZ := Lib.hid hz
        clear hz
        go_wp2
        go_ret
        exact ⟨by rw [← HZ.out]; first | rfl | simp, HC2.out⟩
end Go.Proofs.YtjndgkbikhndoaaGreatDoor

namespace Go.Proofs.YtjndgkbikhndoaaGreatDoor
open Go.RowKit Go.ChangeShapes Go.WideShapes
set_option linter.unusedVariables false

/-- Where the port's colon stands; -1: there is none. -/
def colonI (s : ByteArray) : Int := if Lib.lastIndexByte s 58 < Lib.lastIndexByte s 93 then -1 else Lib.lastIndexByte s 58
def nameB (s : ByteArray) : ByteArray := if 0 ≤ colonI s then s.extract 0 (colonI s).toNat else s
def digB (s : ByteArray) : ByteArray := if 0 ≤ colonI s then s.extract ((colonI s).toNat + 1) s.size else ⟨#[]⟩
/-- What a name and a port's digits say. -/
def hostG (name dig : ByteArray) : ByteArray × Int × Int :=
  if hostL name.data.toList = false then (⟨#[]⟩, 0, 61)
  else if dig.toList.isEmpty = true then (low name, -1, 0)
  else if (numF dig.data.toList).2 ≠ 0 ∨ 5 < dig.size ∨ 65535 < (numF dig.data.toList).1 then (⟨#[]⟩, 0, 62)
  else (low name, (numF dig.data.toList).1, 0)
def hostF (s : ByteArray) : ByteArray × Int × Int := hostG (nameB s) (digB s)
theorem slice_to (s : ByteArray) (b : Nat) (w : World) (hb : b ≤ s.size) : (Instr.slice 9 (.string s) none (some (.int .i64 (b : Int))) none).run Tryz.prog w = .ok (.string (s.extract 0 b)) w := by
  have := run_slice_string_to_if (P := Tryz.prog) w 9 s .i64 (b : Int) Tryz.underlying9
  rw [this]
  simp
  omega
theorem slice_from (s : ByteArray) (a : Nat) (w : World) (ha : a ≤ s.size) : (Instr.slice 9 (.string s) (some (.int .i64 (a : Int))) none none).run Tryz.prog w = .ok (.string (s.extract a s.size)) w := by
  have := run_slice_string_from_if (P := Tryz.prog) w 9 s .i64 (a : Int) Tryz.underlying9
  rw [this]
  simp
  omega
theorem ext_size (t : ByteArray) (a b : Nat) : (t.extract a b).size ≤ t.size := by
  show (t.extract a b).data.size ≤ t.data.size
  rw [ByteArray.data_extract, Array.size_extract]
  omega
theorem emp_empty : (⟨#[]⟩ : ByteArray).toList.isEmpty = true := by rw [Lib.toList_data]; rfl
theorem hostG_no {n d : ByteArray} (h : hostL n.data.toList = false) : hostG n d = (⟨#[]⟩, 0, 61) := by
  unfold hostG
  rw [if_pos h]
theorem hostG_bare {n d : ByteArray} (h : hostL n.data.toList = true) (h2 : d.toList.isEmpty = true) : hostG n d = (low n, -1, 0) := by
  unfold hostG
  rw [if_neg (by rw [h]; decide), if_pos h2]
theorem hostG_bad {n d : ByteArray} {a b : Int} (h : hostL n.data.toList = true) (h2 : d.toList.isEmpty = false) (h3 : numF d.data.toList = (a, b)) (h4 : b ≠ 0 ∨ 5 < d.size ∨ 65535 < a) : hostG n d = (⟨#[]⟩, 0, 62) := by
  unfold hostG
  rw [if_neg (by rw [h]; decide), if_neg (by rw [h2]; decide), h3, if_pos h4]
theorem hostG_ok {n d : ByteArray} {a : Int} (h : hostL n.data.toList = true) (h2 : d.toList.isEmpty = false) (h3 : numF d.data.toList = (a, 0)) (h4 : d.size ≤ 5) (h5 : a ≤ 65535) : hostG n d = (low n, a, 0) := by
  unfold hostG
  rw [if_neg (by rw [h]; decide), if_neg (by rw [h2]; decide), h3, if_neg (by simp; omega)]
set_option maxHeartbeats 4000000 in
set_option maxRecDepth 100000 in
theorem Host_any (s : ByteArray) (w : World) (hs : s.size ≤ 1048576) (hE : Hid (Env w)) (h : ByteArray) (p e : Int) (hz : hostF s = (h, p, e)) :
    Calls Tryz.prog 47 #[.string s] w fun o w' => o = .returned (.tuple #[.string h, .int .i64 p, .int .i64 e]) ∧ Hid (Chg [] w w') := by
  have hz3 : (s.size : Int) ≤ 1048576 := by omega
  have HC := Lib.hid (fun w => Tryz.strings_LastIndexByte s 58 (by omega) w)
  have HD := Lib.hid (fun w => Tryz.strings_LastIndexByte s 93 (by omega) w)
  have hb : Lib.lastIndexByte s 58 < s.size := by
    rcases Lib.lastIndexByte_spec s 58 with ⟨q, -⟩ | ⟨i, q1, q2, -⟩ <;> omega
  unfold hostF nameB digB colonI at hz
  generalize Lib.lastIndexByte s 58 = i at *
  generalize Lib.lastIndexByte s 93 = j at *
  by_cases h1 : i < j
  · rw [if_pos h1, if_neg (by decide), if_neg (by decide)] at hz
    go_enter Tryz.func47, Tryz.ntmps47
    go_wp2_with (go_at_call 70; first | ((with_reducible refine (HC.out _).mono ?_); rintro e w' ⟨rfl, rfl⟩) | ((with_reducible refine (HD.out _).mono ?_); rintro e w' ⟨rfl, rfl⟩))
    have HW := Lib.hid (Chg.refl [] w')
    have ln := hs
    clear h1
    cases k1 : hostL s.data.toList
    · rw [hostG_no k1] at hz
      obtain ⟨z1, z2⟩ := Prod.mk.inj hz
      obtain ⟨z2, z3⟩ := Prod.mk.inj z2
      subst z1 z2 z3
      have HH := Lib.hid (fun w => host_any s w ln false k1)
      clear hz k1
      go_wp2_with (go_at_call 71; (with_reducible refine (HH.out _).mono ?_); rintro e w2 ⟨rfl, H2⟩)
      go_ret3
      exact ⟨rfl, HW.out.trans H2.out (by simp)⟩
    · rw [hostG_bare k1 emp_empty] at hz
      obtain ⟨z1, z2⟩ := Prod.mk.inj hz
      obtain ⟨z2, z3⟩ := Prod.mk.inj z2
      subst z1 z2 z3
      have HH := Lib.hid (fun w => host_any s w ln true k1)
      clear hz k1
      go_wp2_with (go_at_call 71; (with_reducible refine (HH.out _).mono ?_); rintro e w2 ⟨rfl, H2⟩)
      refine (lower_any s _ ln).mono ?_
      rintro e w3 ⟨rfl, H3⟩
      go_wp2
      go_ret3
      exact ⟨rfl, (HW.out.trans H2.out (by simp)).trans H3.out (by simp)⟩
  · rw [if_neg h1] at hz
    by_cases h2 : 0 ≤ i
    · rw [if_pos h2, if_pos h2] at hz
      obtain ⟨k, rfl⟩ : ∃ k : Nat, i = k := ⟨i.toNat, by omega⟩
      rw [Int.toNat_natCast] at hz
      have q1 := fun w => slice_to s k w (by omega)
      have q2 := fun w => slice_from s (k + 1) w (by omega)
      rw [show ((k + 1 : Nat) : Int) = (k : Int) + 1 by omega] at q2
      have l1 := ext_size s 0 k
      have l2 := ext_size s (k + 1) s.size
      generalize s.extract 0 k = name at *
      generalize s.extract (k + 1) s.size = dig at *
      go_enter Tryz.func47, Tryz.ntmps47
      go_wp2_with (go_at_call 70; first | ((with_reducible refine (HC.out _).mono ?_); rintro e w' ⟨rfl, rfl⟩) | ((with_reducible refine (HD.out _).mono ?_); rintro e w' ⟨rfl, rfl⟩))
      go_region
      have HW := Lib.hid ((Chg.refl [] w').drew)
      have HE := Lib.hid (hE.out.chg HW.out)
      have ln : name.size ≤ 1048576 := by omega
      have ld : dig.size ≤ 1048576 := by omega
      clear q1 q2 l1 l2 h1
      generalize w'.drew = w1 at *
      (cases k1 : hostL name.data.toList;
       · (rw [hostG_no k1] at hz;
          obtain ⟨z1, z2⟩ := Prod.mk.inj hz;
          obtain ⟨z2, z3⟩ := Prod.mk.inj z2;
          subst z1 z2 z3;
          have HH := Lib.hid (fun w => host_any name w ln false k1);
          clear hz k1 ld;
          go_wp2_with (go_at_call 71; (with_reducible refine (HH.out _).mono ?_); rintro e w2 ⟨rfl, H2⟩);
          go_ret3;
          exact ⟨rfl, HW.out.trans H2.out (by simp)⟩)
       · (have HH := Lib.hid (fun w => host_any name w ln true k1);
          cases k2 : dig.toList.isEmpty;
          · (obtain ⟨a, b, hab⟩ : ∃ a b, numF dig.data.toList = (a, b) := ⟨_, _, rfl⟩;
             by_cases k3 : b = 0;
             · (subst k3;
                by_cases k4 : 5 < dig.size;
                · (rw [hostG_bad k1 k2 hab (.inr (.inl k4))] at hz;
                   obtain ⟨z1, z2⟩ := Prod.mk.inj hz;
                   obtain ⟨z2, z3⟩ := Prod.mk.inj z2;
                   subst z1 z2 z3;
                   have HAB := Lib.hid hab;
                   have k5 : (5 : Int) < (dig.size : Int) := by omega;
                   clear hz k1 hab k4;
                   go_wp2_with (go_at_call 71; (with_reducible refine (HH.out _).mono ?_); rintro e w2 ⟨rfl, H2⟩);
                   have HE2 := Lib.hid (HE.out.chg H2.out);
                   refine (number_any dig _ ld HE2 _ _ HAB.out).mono ?_;
                   rintro e w3 ⟨rfl, H3⟩;
                   go_wp2;
                   go_ret3;
                   exact ⟨rfl, (HW.out.trans H2.out (by simp)).trans H3.out (by simp)⟩)
                · (have k5 : ¬ (5 : Int) < (dig.size : Int) := by omega;
                   by_cases k6 : 65535 < a;
                   · (rw [hostG_bad k1 k2 hab (.inr (.inr k6))] at hz;
                      obtain ⟨z1, z2⟩ := Prod.mk.inj hz;
                      obtain ⟨z2, z3⟩ := Prod.mk.inj z2;
                      subst z1 z2 z3;
                      have HAB := Lib.hid hab;
                      clear hz k1 hab k4;
                      go_wp2_with (go_at_call 71; (with_reducible refine (HH.out _).mono ?_); rintro e w2 ⟨rfl, H2⟩);
                      have HE2 := Lib.hid (HE.out.chg H2.out);
                      refine (number_any dig _ ld HE2 _ _ HAB.out).mono ?_;
                      rintro e w3 ⟨rfl, H3⟩;
                      go_wp2;
                      go_ret3;
                      exact ⟨rfl, (HW.out.trans H2.out (by simp)).trans H3.out (by simp)⟩)
                   · (rw [hostG_ok k1 k2 hab (by omega) (by omega)] at hz;
                      obtain ⟨z1, z2⟩ := Prod.mk.inj hz;
                      obtain ⟨z2, z3⟩ := Prod.mk.inj z2;
                      subst z1 z2 z3;
                      have HAB := Lib.hid hab;
                      clear hz k1 hab k4;
                      go_wp2_with (go_at_call 71; (with_reducible refine (HH.out _).mono ?_); rintro e w2 ⟨rfl, H2⟩);
                      have HE2 := Lib.hid (HE.out.chg H2.out);
                      refine (number_any dig _ ld HE2 _ _ HAB.out).mono ?_;
                      rintro e w3 ⟨rfl, H3⟩;
                      go_wp2_with fail;
                      refine (lower_any name _ ln).mono ?_;
                      rintro e w4 ⟨rfl, H4⟩;
                      go_wp2;
                      go_ret3;
                      exact ⟨rfl, ((HW.out.trans H2.out (by simp)).trans H3.out (by simp)).trans H4.out (by simp)⟩)))
             · (rw [hostG_bad k1 k2 hab (.inl k3)] at hz;
                obtain ⟨z1, z2⟩ := Prod.mk.inj hz;
                obtain ⟨z2, z3⟩ := Prod.mk.inj z2;
                subst z1 z2 z3;
                have HAB := Lib.hid hab;
                clear hz k1 hab;
                go_wp2_with (go_at_call 71; (with_reducible refine (HH.out _).mono ?_); rintro e w2 ⟨rfl, H2⟩);
                have HE2 := Lib.hid (HE.out.chg H2.out);
                refine (number_any dig _ ld HE2 _ _ HAB.out).mono ?_;
                rintro e w3 ⟨rfl, H3⟩;
                go_wp2;
                go_ret3;
                exact ⟨rfl, (HW.out.trans H2.out (by simp)).trans H3.out (by simp)⟩))
          · (rw [hostG_bare k1 k2] at hz;
             obtain ⟨z1, z2⟩ := Prod.mk.inj hz;
             obtain ⟨z2, z3⟩ := Prod.mk.inj z2;
             subst z1 z2 z3;
             clear hz k1 ld;
             go_wp2_with (go_at_call 71; (with_reducible refine (HH.out _).mono ?_); rintro e w2 ⟨rfl, H2⟩);
             refine (lower_any name _ ln).mono ?_;
             rintro e w3 ⟨rfl, H3⟩;
             go_wp2;
             go_ret3;
             exact ⟨rfl, (HW.out.trans H2.out (by simp)).trans H3.out (by simp)⟩)))
    · rw [if_neg h2, if_neg h2] at hz
      go_enter Tryz.func47, Tryz.ntmps47
      go_wp2_with (go_at_call 70; first | ((with_reducible refine (HC.out _).mono ?_); rintro e w' ⟨rfl, rfl⟩) | ((with_reducible refine (HD.out _).mono ?_); rintro e w' ⟨rfl, rfl⟩))
      have HW := Lib.hid (Chg.refl [] w')
      have ln := hs
      clear h1
      cases k1 : hostL s.data.toList
      · rw [hostG_no k1] at hz
        obtain ⟨z1, z2⟩ := Prod.mk.inj hz
        obtain ⟨z2, z3⟩ := Prod.mk.inj z2
        subst z1 z2 z3
        have HH := Lib.hid (fun w => host_any s w ln false k1)
        clear hz k1
        go_wp2_with (go_at_call 71; (with_reducible refine (HH.out _).mono ?_); rintro e w2 ⟨rfl, H2⟩)
        go_ret3
        exact ⟨rfl, HW.out.trans H2.out (by simp)⟩
      · rw [hostG_bare k1 emp_empty] at hz
        obtain ⟨z1, z2⟩ := Prod.mk.inj hz
        obtain ⟨z2, z3⟩ := Prod.mk.inj z2
        subst z1 z2 z3
        have HH := Lib.hid (fun w => host_any s w ln true k1)
        clear hz k1
        go_wp2_with (go_at_call 71; (with_reducible refine (HH.out _).mono ?_); rintro e w2 ⟨rfl, H2⟩)
        refine (lower_any s _ ln).mono ?_
        rintro e w3 ⟨rfl, H3⟩
        go_wp2
        go_ret3
        exact ⟨rfl, (HW.out.trans H2.out (by simp)).trans H3.out (by simp)⟩
end Go.Proofs.YtjndgkbikhndoaaGreatDoor
