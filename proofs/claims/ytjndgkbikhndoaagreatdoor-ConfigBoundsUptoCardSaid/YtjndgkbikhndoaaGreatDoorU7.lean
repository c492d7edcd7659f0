/- Layer 6, the reference: local. -/
import Derived.Test.YtjndgkbikhndoaaGreatDoorT8
import Derived.Test.YtjndgkbikhndoaaGreatDoorU3
namespace Go.Proofs.YtjndgkbikhndoaaGreatDoor
open Go.RowKit Go.ChangeShapes Go.WideShapes
set_option linter.unusedVariables false

/-- Two blocks that a call made itself. -/
structure Prs (w W : World) (a b : Nat) (va vb : List Value) : Prop where
  ba : Blk W a va 76
  bb : Blk W b vb 76
  ch : Chg [] w W
  ga : w.heap.size ≤ a
  gb : w.heap.size ≤ b
  ne : a ≠ b
theorem Prs.chg {w W W' : World} {a b : Nat} {va vb : List Value} (h : Prs w W a b va vb) (hc : Chg [] W W') : Prs w W' a b va vb :=
  ⟨h.ba.chg hc (by simp), h.bb.chg hc (by simp), h.ch.trans hc (by simp), h.ga, h.gb, h.ne⟩
theorem Prs.seta {w W : World} {a b : Nat} {va vb : List Value} (h : Prs w W a b va vb) (i : Nat) (v : Value) : Prs w (W.setCell ⟨a, i, none⟩ v) a b (va.set i v) vb :=
  ⟨h.ba.set i v, h.bb.other (by show b ≠ a; exact fun e => h.ne e.symm) _, h.ch.setCell (by intro q; have := h.ga; have : a < w.heap.size := q; omega) _, h.ga, h.gb, h.ne⟩
theorem Prs.setb {w W : World} {a b : Nat} {va vb : List Value} (h : Prs w W a b va vb) (i : Nat) (v : Value) : Prs w (W.setCell ⟨b, i, none⟩ v) a b va (vb.set i v) :=
  ⟨h.ba.other (by show a ≠ b; exact h.ne) _, h.bb.set i v, h.ch.setCell (by intro q; have := h.gb; have : b < w.heap.size := q; omega) _, h.ga, h.gb, h.ne⟩
/-- What is laid into a block of six. -/
def putB (W : World) (n : Nat) (a b c d e f : Value) : World := (((((W.setCell ⟨n, 0, none⟩ a).setCell ⟨n, 1, none⟩ b).setCell ⟨n, 2, none⟩ c).setCell ⟨n, 3, none⟩ d).setCell ⟨n, 4, none⟩ e).setCell ⟨n, 5, none⟩ f
theorem Prs.put {w W : World} {a b : Nat} {va : List Value} (h : Prs w W a b va zeroT) (f p : Int) (hh pa q : ByteArray) (k : Bool) : Prs w (putB W b (.int .i64 f) (.string hh) (.int .i64 p) (.string pa) (.string q) (.bool k)) a b va (tgt f hh p pa q k) := by
  have := (((((h.setb 0 (.int .i64 f)).setb 1 (.string hh)).setb 2 (.int .i64 p)).setb 3 (.string pa)).setb 4 (.string q)).setb 5 (.bool k)
  exact this
theorem Prs.start (w : World) (va vb : List Value) : Prs w ((w.alloc (.cells va.toArray 76)).alloc (.cells vb.toArray 76)) w.heap.size (w.heap.size + 1) va vb := by
  refine ⟨(Blk.new w va 76).alloc _, ?_, ((Chg.refl [] w).alloc _).alloc _, Nat.le_refl _, by omega, by omega⟩
  have := Blk.new (w.alloc (.cells va.toArray 76)) vb 76
  rw [show (w.alloc (.cells va.toArray 76)).heap.size = w.heap.size + 1 by simp] at this
  exact this
theorem index_first {l : List UInt8} {i : Nat} (h : l[i]? = some 63) (hn : ∀ j, j < i → l[j]? ≠ some 63) : Lib.indexByte l 63 = i := by
  induction l generalizing i with
  | nil => simp at h
  | cons b r ih =>
    unfold Lib.indexByte
    cases i with
    | zero =>
      have : b = 63 := by simpa using h
      rw [this]
      rfl
    | succ i =>
      have hb : b ≠ 63 := fun e => hn 0 (by omega) (by rw [e]; rfl)
      rw [if_neg (by simpa using hb)]
      have := ih (i := i) (by simpa using h) (fun j hj e => hn (j + 1) (by omega) (by simpa using e))
      rw [this, if_neg (by simp)]
      omega
theorem index_none {l : List UInt8} (hn : ∀ j : Nat, l[j]? ≠ some 63) : Lib.indexByte l 63 = -1 := by
  induction l with
  | nil => rfl
  | cons b r ih =>
    unfold Lib.indexByte
    have hb : b ≠ 63 := fun e => hn 0 (by rw [e]; rfl)
    rw [if_neg (by simpa using hb), ih (fun j e => hn (j + 1) (by simpa using e))]
    rfl
theorem cut_at {l : List UInt8} {i : Nat} (h : l[i]? = some 63) (hn : ∀ j, j < i → l[j]? ≠ some 63) : Lib.cut l [63] = (l.take i, l.drop (i + 1), true) := by
  unfold Lib.cut
  rw [Lib.index_one, index_first h hn, if_pos (by omega)]
  rfl
theorem cut_none {l : List UInt8} (hn : ∀ j : Nat, l[j]? ≠ some 63) : Lib.cut l [63] = (l, [], false) := by
  unfold Lib.cut
  rw [Lib.index_one, index_none hn, if_neg (by omega)]
theorem ofList (s : ByteArray) (l : List UInt8) (h : s.data.toList = l) : s = ⟨l.toArray⟩ := by
  rw [← h, Array.toArray_toList]
theorem data_ext (s : ByteArray) (a b : Nat) : (s.extract a b).data.toList = (s.data.toList.drop a).take (b - a) := by
  rw [ByteArray.data_extract]
  simp [List.take_drop]
theorem cutS_at {s : ByteArray} {i : Nat} (h : s.data.toList[i]? = some 63) (hn : ∀ j, j < i → s.data.toList[j]? ≠ some 63) : cutP s = s.extract 0 i ∧ cutQ s = s.extract (i + 1) s.size ∧ cutA s = true := by
  unfold cutP cutQ cutA
  rw [cut_at h hn]
  refine ⟨(ofList _ _ ?_).symm, (ofList _ _ ?_).symm, rfl⟩
  · rw [data_ext]; simp
  · rw [data_ext]
    refine List.take_of_length_le ?_
    rw [List.length_drop, toList_len]
    omega
theorem cutS_none {s : ByteArray} (hn : ∀ j : Nat, s.data.toList[j]? ≠ some 63) : cutP s = s ∧ cutQ s = ⟨#[]⟩ ∧ cutA s = false := by
  unfold cutP cutQ cutA
  rw [cut_none hn]
  exact ⟨(ofList s _ rfl).symm, rfl, rfl⟩
set_option maxRecDepth 100000 in
theorem results19 (tmps : Array Value) (w : World) (b : Nat) (f p : Int) (h pa q : ByteArray) (a e : Bool) (ht : tmps.getD 4 undef = .pointer (some ⟨b, 0, none⟩)) (he : tmps.getD 5 undef = .bool e) (hb : Blk w b (tgt f h p pa q a) 76) :
    (results Tryz.f113 tmps).run Tryz.prog w = .ok (.tuple #[.agg (tgt f h p pa q a).toArray, .bool e]) w := by
  have hres : Tryz.f113.results = #[.cell 4 76, .tmp 5] := by kernel_rfl
  have hi : (Tryz.prog.info? 76).map (·.size) = some (tgt f h p pa q a).toArray.size := by
    have : (Tryz.prog.info? 76).map (·.size) = some 6 := by kernel_rfl
    exact this
  have hv : (loadVar 76 ⟨b, 0, none⟩).run Tryz.prog w = .ok (.agg (tgt f h p pa q a).toArray) w := run_loadVar_row w b 76 76 _ (0, 0) _ hb Tryz.underlying76 rfl hi
  have ht' : tmps[4]?.getD undef = .pointer (some ⟨b, 0, none⟩) := by rw [← Array.getD_eq_getD_getElem?]; exact ht
  have he' : tmps[5]?.getD undef = .bool e := by rw [← Array.getD_eq_getD_getElem?]; exact he
  simp [results, ht', he', hv, Result.andThen, asAddr]
theorem head47 (p : ByteArray) (h : 0 < p.size) : Lib.hasPrefix p.data.toList [47] = ((((p[0]'h).toNat : Int)) == 47) := by
  have hg := toList_get p 0 h
  obtain ⟨x, hx⟩ : ∃ x, p[0]'h = x := ⟨_, rfl⟩
  rw [hx] at hg ⊢
  cases hl : p.data.toList with
  | nil => rw [hl] at hg; simp at hg
  | cons y r =>
    rw [hl] at hg
    have : y = x := by simpa using hg
    subst this
    unfold Lib.hasPrefix
    simp only [List.isPrefixOf, Bool.and_true]
    rw [Bool.eq_iff_iff, beq_iff_eq, beq_iff_eq]
    constructor
    · intro e; rw [← e]; rfl
    · intro e
      refine UInt8.toNat_inj.1 ?_
      have : (47 : UInt8).toNat = 47 := rfl
      omega
set_option maxHeartbeats 4000000 in
set_option maxRecDepth 100000 in
theorem rlocal_any (f p : Int) (h : ByteArray) (s : ByteArray) (w : World) (hs : s.size ≤ 1048576) (z : Bool) (hz : locL (cutP s).data.toList (cutQ s).data.toList = z) :
    Calls Tryz.prog 113 #[.agg (tgt f h p ⟨#[]⟩ ⟨#[]⟩ false).toArray, .string s] w fun o w' => o = .returned (.tuple #[.agg (tgt f h p (cutP s) (cutQ s) (cutA s)).toArray, .bool z]) ∧ Hid (Chg [] w w') := by
  have hz3 : (s.size : Int) ≤ 1048576 := by omega
  have HSt := Lib.hid (Prs.start w (tgt f h p s ⟨#[]⟩ false) zeroT)
  have HAll : Hid (∀ P Q A, cutP s = P → cutQ s = Q → cutA s = A → Hid (cutP s = P ∧ cutQ s = Q ∧ cutA s = A) ∧ (Lib.hasPrefix P.data.toList [47] && (madeL pathMore P.data.toList && madeL qryMore Q.data.toList)) = z) := Lib.hid (fun P Q A h1 h2 h3 => by
    refine ⟨Lib.hid ⟨h1, h2, h3⟩, ?_⟩
    rw [← hz, h1, h2]
    rfl)
  clear hz
  change Calls Tryz.prog 113 #[.agg #[.int .i64 f, .string h, .int .i64 p, .string ⟨#[]⟩, .string ⟨#[]⟩, .bool false], .string s] w _
  go_enter Tryz.func113, Tryz.ntmps113
  go_wp2
  have HS1 := HSt.out
  change Prs w ((w.alloc (.cells #[.int .i64 f, .string h, .int .i64 p, .string s, .string ⟨#[]⟩, .bool false] 76)).alloc (.cells #[.int .i64 0, .string ⟨#[]⟩, .int .i64 0, .string ⟨#[]⟩, .string ⟨#[]⟩, .bool false] 76)) w.heap.size (w.heap.size + 1) (tgt f h p s ⟨#[]⟩ false) zeroT at HS1
  generalize ((w.alloc (.cells #[.int .i64 f, .string h, .int .i64 p, .string s, .string ⟨#[]⟩, .bool false] 76)).alloc (.cells #[.int .i64 0, .string ⟨#[]⟩, .int .i64 0, .string ⟨#[]⟩, .string ⟨#[]⟩, .bool false] 76)) = W1 at HS1 ⊢
  generalize w.heap.size + 1 = b at HS1 ⊢
  generalize w.heap.size = a at HS1 ⊢
  have HS := Lib.hid HS1
  clear HS1 HSt
  go_loopw [6] (fun i wr => ∃ k : Nat, k ≤ s.size ∧ i = .int .i64 k ∧ Hid (∀ j : Nat, j < k → s.data.toList[j]? ≠ some 63) ∧ wr = W1) (fun i _ => s.size - (intOf i).toNat)
  case atStart => exact ⟨0, by omega, rfl, Lib.hid (fun j h => absurd h (by omega)), rfl⟩
  case round =>
    obtain ⟨k, hk, rfl, HN, rfl⟩ := hrel
    by_cases hlt : k < s.size
    · have hlt2 : (k : Int) < (s.size : Int) := by omega
      have hcl := toList_get s k hlt
      obtain ⟨x, hx⟩ : ∃ x, s[k]'hlt = x := ⟨_, rfl⟩
      rw [hx] at hcl
      by_cases hxc : x = 63
      · have hq : ((x.toNat : Int) == 63) = true := by rw [hxc]; rfl
        rw [hxc] at hcl
        obtain ⟨k1, k2, k3⟩ := cutS_at hcl HN.out
        have q1 := fun w => slice_to s k w (by omega)
        have q2 := fun w => slice_from s (k + 1) w (by omega)
        rw [show ((k + 1 : Nat) : Int) = (k : Int) + 1 by omega] at q2
        have l1 := ext_size s 0 k
        have l2 := ext_size s (k + 1) s.size
        generalize s.extract 0 k = P at *
        generalize s.extract (k + 1) s.size = Q at *
        obtain ⟨HPQ, hz⟩ := HAll.out P Q true k1 k2 k3
        have HA := Lib.hid k3
        have HP1 := Lib.hid k1
        have HQ1 := Lib.hid k2
        have HP := Lib.hid (((HS.out.seta 3 (.string P)).seta 4 (.string Q)).seta 5 (.bool true))
        clear hcl hxc k1 k2 k3
        have e3 := HS.out.ba.cell 3 _ rfl
        have e4 := HS.out.ba.cell 4 _ rfl
        have e5 := HS.out.ba.cell 5 _ rfl
        have g3 := HS.out.ba.free 3
        have g4 := HS.out.ba.free 4
        have g5 := HS.out.ba.free 5
        have H2 := Lib.hid (fun w => rmade_any P ⟨#[45, 46, 95, 126, 33, 36, 38, 39, 40, 41, 42, 43, 44, 59, 61, 58, 64, 47]⟩ w (by omega) (by decide) (by decide))
        have H3 := Lib.hid (fun w => rmade_any Q ⟨#[45, 46, 95, 126, 33, 36, 38, 39, 40, 41, 42, 43, 44, 59, 61, 58, 64, 47, 63]⟩ w (by omega) (by decide) (by decide))
        rw [show (⟨#[45, 46, 95, 126, 33, 36, 38, 39, 40, 41, 42, 43, 44, 59, 61, 58, 64, 47]⟩ : ByteArray).data.toList = pathMore from rfl] at H2
        rw [show (⟨#[45, 46, 95, 126, 33, 36, 38, 39, 40, 41, 42, 43, 44, 59, 61, 58, 64, 47, 63]⟩ : ByteArray).data.toList = qryMore from rfl] at H3
        generalize madeL pathMore P.data.toList = b2 at *
        generalize madeL qryMore Q.data.toList = b3 at *
        by_cases hp0 : 0 < P.size
        · have hp0i : (0 : Int) < (P.size : Int) := by omega
          have hh47 := head47 P hp0
          obtain ⟨x, hx⟩ : ∃ x, P[0]'hp0 = x := ⟨_, rfl⟩
          rw [hx] at hh47
          cases hq47 : ((x.toNat : Int) == 47)
          · have HZ := Lib.hid (show z = false from by rw [← hz, hh47, hq47]; rfl)
            clear hh47 hz
            (have HPT := Lib.hid (HP.out.put f p h P Q true);
             have c0 := HP.out.bb.cell 0 _ rfl;
             have c1 := HP.out.bb.cell 1 _ rfl;
             have c2 := HP.out.bb.cell 2 _ rfl;
             have c3 := HP.out.bb.cell 3 _ rfl;
             have c4 := HP.out.bb.cell 4 _ rfl;
             have c5 := HP.out.bb.cell 5 _ rfl;
             have f0 := HP.out.bb.free 0;
             have f1 := HP.out.bb.free 1;
             have f2 := HP.out.bb.free 2;
             have f3 := HP.out.bb.free 3;
             have f4 := HP.out.bb.free 4;
             have f5 := HP.out.bb.free 5;
             have d0 := HP.out.ba.cell 0 _ rfl;
             have d1 := HP.out.ba.cell 1 _ rfl;
             have d2 := HP.out.ba.cell 2 _ rfl;
             have d3 := HP.out.ba.cell 3 _ rfl;
             have d4 := HP.out.ba.cell 4 _ rfl;
             have d5 := HP.out.ba.cell 5 _ rfl)
            go_wp2
            refine bodyPost_ret (results19 _ _ b f p h P Q true false rfl rfl HPT.out.bb) rfl ⟨?_, HPT.out.ch⟩
            rw [HZ.out, HA.out, HP1.out, HQ1.out]
          · rw [hh47, hq47, Bool.true_and] at hz
            clear hh47
            (have HPT := Lib.hid (HP.out.put f p h P Q true);
             have c0 := HP.out.bb.cell 0 _ rfl;
             have c1 := HP.out.bb.cell 1 _ rfl;
             have c2 := HP.out.bb.cell 2 _ rfl;
             have c3 := HP.out.bb.cell 3 _ rfl;
             have c4 := HP.out.bb.cell 4 _ rfl;
             have c5 := HP.out.bb.cell 5 _ rfl;
             have f0 := HP.out.bb.free 0;
             have f1 := HP.out.bb.free 1;
             have f2 := HP.out.bb.free 2;
             have f3 := HP.out.bb.free 3;
             have f4 := HP.out.bb.free 4;
             have f5 := HP.out.bb.free 5;
             have d0 := HP.out.ba.cell 0 _ rfl;
             have d1 := HP.out.ba.cell 1 _ rfl;
             have d2 := HP.out.ba.cell 2 _ rfl;
             have d3 := HP.out.ba.cell 3 _ rfl;
             have d4 := HP.out.ba.cell 4 _ rfl;
             have d5 := HP.out.ba.cell 5 _ rfl)
            cases b2
            · have HZ := Lib.hid (show z = false from by rw [← hz]; rfl)
              clear hz
              go_wp2_with (go_at_call 132; (with_reducible refine (H2.out _).mono ?_); rintro e w4 ⟨rfl, rfl⟩)
              refine bodyPost_ret (results19 _ _ b f p h P Q true false rfl rfl HPT.out.bb) rfl ⟨?_, HPT.out.ch⟩
              rw [HZ.out, HA.out, HP1.out, HQ1.out]
            · rw [Bool.true_and] at hz
              have HZ := Lib.hid (show z = b3 from hz.symm)
              clear hz
              go_wp2_with (go_at_call 132; first | ((with_reducible refine (H2.out _).mono ?_); rintro e w4 ⟨rfl, rfl⟩) | ((with_reducible refine (H3.out _).mono ?_); rintro e w5 ⟨rfl, rfl⟩))
              refine bodyPost_ret (results19 _ _ b f p h P Q true b3 rfl rfl HPT.out.bb) rfl ⟨?_, HPT.out.ch⟩
              rw [HZ.out, HA.out, HP1.out, HQ1.out]
        · have hp0i : ¬ (0 : Int) < (P.size : Int) := by omega
          have HZ := Lib.hid (show z = false from by
            rw [← hz]
            have hl : P.data.toList = [] := List.eq_nil_of_length_eq_zero (by rw [toList_len]; omega)
            rw [hl]
            rfl)
          clear hz
          (have HPT := Lib.hid (HP.out.put f p h P Q true);
           have c0 := HP.out.bb.cell 0 _ rfl;
           have c1 := HP.out.bb.cell 1 _ rfl;
           have c2 := HP.out.bb.cell 2 _ rfl;
           have c3 := HP.out.bb.cell 3 _ rfl;
           have c4 := HP.out.bb.cell 4 _ rfl;
           have c5 := HP.out.bb.cell 5 _ rfl;
           have f0 := HP.out.bb.free 0;
           have f1 := HP.out.bb.free 1;
           have f2 := HP.out.bb.free 2;
           have f3 := HP.out.bb.free 3;
           have f4 := HP.out.bb.free 4;
           have f5 := HP.out.bb.free 5;
           have d0 := HP.out.ba.cell 0 _ rfl;
           have d1 := HP.out.ba.cell 1 _ rfl;
           have d2 := HP.out.ba.cell 2 _ rfl;
           have d3 := HP.out.ba.cell 3 _ rfl;
           have d4 := HP.out.ba.cell 4 _ rfl;
           have d5 := HP.out.ba.cell 5 _ rfl)
          go_wp2
          refine bodyPost_ret (results19 _ _ b f p h P Q true false rfl rfl HPT.out.bb) rfl ⟨?_, HPT.out.ch⟩
          rw [HZ.out, HA.out, HP1.out, HQ1.out]
      · have hq : ((x.toNat : Int) == 63) = false := beq_eq_false_iff_ne.2 (fun e => hxc (UInt8.toNat_inj.1 (by have : (63 : UInt8).toNat = 63 := rfl; omega)))
        have HN2 := Lib.hid (show ∀ j : Nat, j < k + 1 → s.data.toList[j]? ≠ some 63 from fun j hj hd => by
          rcases Nat.lt_or_ge j k with h1 | h1
          · exact HN.out j h1 hd
          · obtain rfl : j = k := by omega
            rw [hcl] at hd
            injection hd with hd
            exact hxc hd)
        clear hcl hxc HN
        go_wp2
        go_roundw
        case rel => exact ⟨k + 1, by omega, by go_num, HN2, by first | rfl | trivial⟩
        case measure => simp [intOf]; omega
    · obtain rfl : k = s.size := by omega
      obtain ⟨k1, k2, k3⟩ := cutS_none (s := s) (fun j e => by
        rcases Nat.lt_or_ge j s.size with h1 | h1
        · exact HN.out j h1 e
        · rw [List.getElem?_eq_none (by rw [toList_len]; exact h1)] at e
          cases e)
      have HA := Lib.hid k3
      have HP1 := Lib.hid k1
      have HQ1 := Lib.hid k2
      obtain ⟨HPQ, hz⟩ := HAll.out s ⟨#[]⟩ false k1 k2 k3
      have HP := HS
      clear k1 k2 k3
      have l2 : (⟨#[]⟩ : ByteArray).size ≤ 5 := by decide
      have H2 := Lib.hid (fun w => rmade_any s ⟨#[45, 46, 95, 126, 33, 36, 38, 39, 40, 41, 42, 43, 44, 59, 61, 58, 64, 47]⟩ w (by omega) (by decide) (by decide))
      have H3 := Lib.hid (fun w => rmade_any (⟨#[]⟩ : ByteArray) ⟨#[45, 46, 95, 126, 33, 36, 38, 39, 40, 41, 42, 43, 44, 59, 61, 58, 64, 47, 63]⟩ w (by omega) (by decide) (by decide))
      rw [show (⟨#[45, 46, 95, 126, 33, 36, 38, 39, 40, 41, 42, 43, 44, 59, 61, 58, 64, 47]⟩ : ByteArray).data.toList = pathMore from rfl] at H2
      rw [show (⟨#[45, 46, 95, 126, 33, 36, 38, 39, 40, 41, 42, 43, 44, 59, 61, 58, 64, 47, 63]⟩ : ByteArray).data.toList = qryMore from rfl] at H3
      generalize madeL pathMore s.data.toList = b2 at *
      generalize madeL qryMore (⟨#[]⟩ : ByteArray).data.toList = b3 at *
      by_cases hp0 : 0 < s.size
      · have hp0i : (0 : Int) < (s.size : Int) := by omega
        have hh47 := head47 s hp0
        obtain ⟨x, hx⟩ : ∃ x, s[0]'hp0 = x := ⟨_, rfl⟩
        rw [hx] at hh47
        cases hq47 : ((x.toNat : Int) == 47)
        · have HZ := Lib.hid (show z = false from by rw [← hz, hh47, hq47]; rfl)
          clear hh47 hz
          (have HPT := Lib.hid (HP.out.put f p h s (⟨#[]⟩ : ByteArray) false);
           have c0 := HP.out.bb.cell 0 _ rfl;
           have c1 := HP.out.bb.cell 1 _ rfl;
           have c2 := HP.out.bb.cell 2 _ rfl;
           have c3 := HP.out.bb.cell 3 _ rfl;
           have c4 := HP.out.bb.cell 4 _ rfl;
           have c5 := HP.out.bb.cell 5 _ rfl;
           have f0 := HP.out.bb.free 0;
           have f1 := HP.out.bb.free 1;
           have f2 := HP.out.bb.free 2;
           have f3 := HP.out.bb.free 3;
           have f4 := HP.out.bb.free 4;
           have f5 := HP.out.bb.free 5;
           have d0 := HP.out.ba.cell 0 _ rfl;
           have d1 := HP.out.ba.cell 1 _ rfl;
           have d2 := HP.out.ba.cell 2 _ rfl;
           have d3 := HP.out.ba.cell 3 _ rfl;
           have d4 := HP.out.ba.cell 4 _ rfl;
           have d5 := HP.out.ba.cell 5 _ rfl)
          go_wp2
          refine bodyPost_ret (results19 _ _ b f p h s (⟨#[]⟩ : ByteArray) false false rfl rfl HPT.out.bb) rfl ⟨?_, HPT.out.ch⟩
          rw [HZ.out, HA.out, HP1.out, HQ1.out]
        · rw [hh47, hq47, Bool.true_and] at hz
          clear hh47
          (have HPT := Lib.hid (HP.out.put f p h s (⟨#[]⟩ : ByteArray) false);
           have c0 := HP.out.bb.cell 0 _ rfl;
           have c1 := HP.out.bb.cell 1 _ rfl;
           have c2 := HP.out.bb.cell 2 _ rfl;
           have c3 := HP.out.bb.cell 3 _ rfl;
           have c4 := HP.out.bb.cell 4 _ rfl;
           have c5 := HP.out.bb.cell 5 _ rfl;
           have f0 := HP.out.bb.free 0;
           have f1 := HP.out.bb.free 1;
           have f2 := HP.out.bb.free 2;
           have f3 := HP.out.bb.free 3;
           have f4 := HP.out.bb.free 4;
           have f5 := HP.out.bb.free 5;
           have d0 := HP.out.ba.cell 0 _ rfl;
           have d1 := HP.out.ba.cell 1 _ rfl;
           have d2 := HP.out.ba.cell 2 _ rfl;
           have d3 := HP.out.ba.cell 3 _ rfl;
           have d4 := HP.out.ba.cell 4 _ rfl;
           have d5 := HP.out.ba.cell 5 _ rfl)
          cases b2
          · have HZ := Lib.hid (show z = false from by rw [← hz]; rfl)
            clear hz
            go_wp2_with (go_at_call 132; (with_reducible refine (H2.out _).mono ?_); rintro e w4 ⟨rfl, rfl⟩)
            refine bodyPost_ret (results19 _ _ b f p h s (⟨#[]⟩ : ByteArray) false false rfl rfl HPT.out.bb) rfl ⟨?_, HPT.out.ch⟩
            rw [HZ.out, HA.out, HP1.out, HQ1.out]
          · rw [Bool.true_and] at hz
            have HZ := Lib.hid (show z = b3 from hz.symm)
            clear hz
            go_wp2_with (go_at_call 132; first | ((with_reducible refine (H2.out _).mono ?_); rintro e w4 ⟨rfl, rfl⟩) | ((with_reducible refine (H3.out _).mono ?_); rintro e w5 ⟨rfl, rfl⟩))
            refine bodyPost_ret (results19 _ _ b f p h s (⟨#[]⟩ : ByteArray) false b3 rfl rfl HPT.out.bb) rfl ⟨?_, HPT.out.ch⟩
            rw [HZ.out, HA.out, HP1.out, HQ1.out]
      · have hp0i : ¬ (0 : Int) < (s.size : Int) := by omega
        have HZ := Lib.hid (show z = false from by
          rw [← hz]
          have hl : s.data.toList = [] := List.eq_nil_of_length_eq_zero (by rw [toList_len]; omega)
          rw [hl]
          rfl)
        clear hz
        (have HPT := Lib.hid (HP.out.put f p h s (⟨#[]⟩ : ByteArray) false);
         have c0 := HP.out.bb.cell 0 _ rfl;
         have c1 := HP.out.bb.cell 1 _ rfl;
         have c2 := HP.out.bb.cell 2 _ rfl;
         have c3 := HP.out.bb.cell 3 _ rfl;
         have c4 := HP.out.bb.cell 4 _ rfl;
         have c5 := HP.out.bb.cell 5 _ rfl;
         have f0 := HP.out.bb.free 0;
         have f1 := HP.out.bb.free 1;
         have f2 := HP.out.bb.free 2;
         have f3 := HP.out.bb.free 3;
         have f4 := HP.out.bb.free 4;
         have f5 := HP.out.bb.free 5;
         have d0 := HP.out.ba.cell 0 _ rfl;
         have d1 := HP.out.ba.cell 1 _ rfl;
         have d2 := HP.out.ba.cell 2 _ rfl;
         have d3 := HP.out.ba.cell 3 _ rfl;
         have d4 := HP.out.ba.cell 4 _ rfl;
         have d5 := HP.out.ba.cell 5 _ rfl)
        go_wp2
        refine bodyPost_ret (results19 _ _ b f p h s (⟨#[]⟩ : ByteArray) false false rfl rfl HPT.out.bb) rfl ⟨?_, HPT.out.ch⟩
        rw [HZ.out, HA.out, HP1.out, HQ1.out]
end Go.Proofs.YtjndgkbikhndoaaGreatDoor
