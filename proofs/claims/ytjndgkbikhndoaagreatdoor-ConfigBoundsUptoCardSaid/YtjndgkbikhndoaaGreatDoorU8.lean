/- Layer 6, the reference: Parse. -/
import Derived.Test.YtjndgkbikhndoaaGreatDoorTA
import Derived.Test.YtjndgkbikhndoaaGreatDoorU6
import Derived.Test.YtjndgkbikhndoaaGreatDoorU7
namespace Go.Proofs.YtjndgkbikhndoaaGreatDoor
open Go.RowKit Go.ChangeShapes Go.WideShapes
set_option linter.unusedVariables false

set_option maxRecDepth 100000 in
theorem results10 (tmps : Array Value) (w : World) (b : Nat) (f p : Int) (h pa q : ByteArray) (a : Bool) (e : Int) (ht : tmps.getD 4 undef = .pointer (some ⟨b, 0, none⟩)) (he : tmps.getD 5 undef = .int .i64 e) (hb : Blk w b (tgt f h p pa q a) 76) :
    (results Tryz.f83 tmps).run Tryz.prog w = .ok (.tuple #[.agg (tgt f h p pa q a).toArray, .int .i64 e]) w := by
  have hres : Tryz.f83.results = #[.cell 4 76, .tmp 5] := by kernel_rfl
  have hi : (Tryz.prog.info? 76).map (·.size) = some (tgt f h p pa q a).toArray.size := by
    have : (Tryz.prog.info? 76).map (·.size) = some 6 := by kernel_rfl
    exact this
  have hv : (loadVar 76 ⟨b, 0, none⟩).run Tryz.prog w = .ok (.agg (tgt f h p pa q a).toArray) w := run_loadVar_row w b 76 76 _ (0, 0) _ hb Tryz.underlying76 rfl hi
  have ht' : tmps[4]?.getD undef = .pointer (some ⟨b, 0, none⟩) := by rw [← Array.getD_eq_getD_getElem?]; exact ht
  have he' : tmps[5]?.getD undef = .int .i64 e := by rw [← Array.getD_eq_getD_getElem?]; exact he
  simp [results, ht', he', hv, Result.andThen, asAddr]
/-- The result's block, which still holds nothing. -/
structure Res (w W : World) (b : Nat) (vs : List Value) : Prop where
  res : Blk W b vs 76
  ch : Chg [] w W
  ge : w.heap.size ≤ b
theorem Res.chg {w W W' : World} {b : Nat} {vs : List Value} (h : Res w W b vs) (hc : Chg [] W W') : Res w W' b vs := ⟨h.res.chg hc (by simp), h.ch.trans hc (by simp), h.ge⟩
theorem Res.set {w W : World} {b : Nat} {vs : List Value} (h : Res w W b vs) (i : Nat) (v : Value) : Res w (W.setCell ⟨b, i, none⟩ v) b (vs.set i v) :=
  ⟨h.res.set i v, h.ch.setCell (by intro q; have := h.ge; have : b < w.heap.size := q; omega) _, h.ge⟩
theorem Res.put {w W : World} {b : Nat} (h : Res w W b zeroT) (f p : Int) (hh pa q : ByteArray) (k : Bool) : Res w (putB W b (.int .i64 f) (.string hh) (.int .i64 p) (.string pa) (.string q) (.bool k)) b (tgt f hh p pa q k) := by
  have := (((((h.set 0 (.int .i64 f)).set 1 (.string hh)).set 2 (.int .i64 p)).set 3 (.string pa)).set 4 (.string q)).set 5 (.bool k)
  exact this
theorem Res.start (w : World) (vs : List Value) : Res w (w.alloc (.cells vs.toArray 76)) w.heap.size vs := ⟨Blk.new w vs 76, (Chg.refl [] w).alloc _, Nat.le_refl _⟩
set_option maxHeartbeats 4000000 in
set_option maxRecDepth 100000 in
theorem rparse_long (m s : ByteArray) (w : World) (h : 8192 < s.size) :
    Calls Tryz.prog 83 #[.string m, .string s] w fun o w' => o = .returned (.tuple #[.agg zeroT.toArray, .int .i64 2]) ∧ Hid (Chg [] w w') := by
  have h2 : (8192 : Int) < (s.size : Int) := by omega
  have HB := Lib.hid (Blk.new w zeroT 76)
  have HC := Lib.hid ((Chg.refl [] w).alloc (.cells zeroT.toArray 76))
  go_enter Tryz.func83, Tryz.ntmps83
  go_wp2
  exact bodyPost_ret (results10 _ _ w.heap.size 0 0 ⟨#[]⟩ ⟨#[]⟩ ⟨#[]⟩ false 2 rfl rfl HB.out) rfl ⟨rfl, HC.out⟩
set_option maxHeartbeats 4000000 in
set_option maxRecDepth 100000 in
theorem rparse_conn (m s : ByteArray) (w : World) (h : s.size ≤ 8192) (k : (m.toList == [67, 79, 78, 78, 69, 67, 84]) = true) :
    Calls Tryz.prog 83 #[.string m, .string s] w fun o w' => o = .returned (.tuple #[.agg (connF s).1.toArray, .int .i64 (connF s).2]) ∧ Hid (Chg [] w w') := by
  have h2 : ¬ (8192 : Int) < (s.size : Int) := by omega
  obtain ⟨hh, p, e, hz⟩ : ∃ hh p e, hostF s = (hh, p, e) := ⟨_, _, _, rfl⟩
  have HTS := Lib.hid (Res.start w zeroT)
  have hcf : connF s = if e ≠ 0 then (zeroT, e) else if p < 0 then (zeroT, 62) else (tgt 3 hh p ⟨#[]⟩ ⟨#[]⟩ false, 0) := by
    unfold connF
    rw [hz]
  have HZ := Lib.hid hz
  have HCF := Lib.hid hcf
  clear hz hcf
  go_enter Tryz.func83, Tryz.ntmps83
  go_wp2_with fail
  have HW1 := HTS.out
  change Res w (w.alloc (.cells #[.int .i64 0, .string ⟨#[]⟩, .int .i64 0, .string ⟨#[]⟩, .string ⟨#[]⟩, .bool false] 76)) _ _ at HW1
  generalize (w.alloc (.cells #[.int .i64 0, .string ⟨#[]⟩, .int .i64 0, .string ⟨#[]⟩, .string ⟨#[]⟩, .bool false] 76)) = W1 at HW1 ⊢
  generalize w.heap.size = b at HW1 ⊢
  refine (rHost_any s _ (by omega) hh p e HZ.out).mono ?_
  rintro o W2 ⟨rfl, H2⟩
  have HR := Lib.hid (HW1.chg H2.out)
  (have c0 := HR.out.res.cell 0 _ rfl;
   have c1 := HR.out.res.cell 1 _ rfl;
   have c2 := HR.out.res.cell 2 _ rfl;
   have c3 := HR.out.res.cell 3 _ rfl;
   have c4 := HR.out.res.cell 4 _ rfl;
   have c5 := HR.out.res.cell 5 _ rfl;
   have f0 := HR.out.res.free 0;
   have f1 := HR.out.res.free 1;
   have f2 := HR.out.res.free 2;
   have f3 := HR.out.res.free 3;
   have f4 := HR.out.res.free 4;
   have f5 := HR.out.res.free 5)
  have HPZ := Lib.hid (HR.out.put 0 0 ⟨#[]⟩ ⟨#[]⟩ ⟨#[]⟩ false)
  have HPT := Lib.hid (HR.out.put 3 p hh ⟨#[]⟩ ⟨#[]⟩ false)
  clear HW1
  by_cases k1 : e = 0
  · subst k1
    by_cases k2 : p < 0
    · have HQ : Hid (connF s = (zeroT, 62)) := Lib.hid (by rw [HCF.out, if_neg (by decide), if_pos k2])
      go_wp2
      rw [HQ.out]
      exact bodyPost_ret (results10 _ _ b 0 0 ⟨#[]⟩ ⟨#[]⟩ ⟨#[]⟩ false 62 rfl rfl HPZ.out.res) rfl ⟨rfl, HPZ.out.ch⟩
    · have HQ : Hid (connF s = (tgt 3 hh p ⟨#[]⟩ ⟨#[]⟩ false, 0)) := Lib.hid (by rw [HCF.out, if_neg (by decide), if_neg k2])
      go_wp2
      rw [HQ.out]
      exact bodyPost_ret (results10 _ _ b 3 p hh ⟨#[]⟩ ⟨#[]⟩ false 0 rfl rfl HPT.out.res) rfl ⟨rfl, HPT.out.ch⟩
  · have HQ : Hid (connF s = (zeroT, e)) := Lib.hid (by rw [HCF.out, if_pos k1])
    have k1b : (e == 0) = false := beq_eq_false_iff_ne.2 k1
    go_wp2
    rw [HQ.out]
    exact bodyPost_ret (results10 _ _ b 0 0 ⟨#[]⟩ ⟨#[]⟩ ⟨#[]⟩ false e rfl rfl HPZ.out.res) rfl ⟨rfl, HPZ.out.ch⟩
set_option maxHeartbeats 4000000 in
set_option maxRecDepth 100000 in
theorem rparse_star (m s : ByteArray) (w : World) (h : s.size ≤ 8192) (k : (m.toList == [67, 79, 78, 78, 69, 67, 84]) = false) (k2 : (s.toList == [42]) = true) (z : Bool) (k3 : (m.toList == [79, 80, 84, 73, 79, 78, 83]) = z) :
    Calls Tryz.prog 83 #[.string m, .string s] w fun o w' => o = .returned (.tuple #[.agg (if z then tgt 4 ⟨#[]⟩ (-1) ⟨#[]⟩ ⟨#[]⟩ false else zeroT).toArray, .int .i64 (if z then 0 else 60)]) ∧ Hid (Chg [] w w') := by
  have hl : s.data.toList = [42] := by
    rw [beq_iff_eq, Lib.toList_data] at k2
    exact k2
  have hs1 : s.size = 1 := by rw [← toList_len, hl]; rfl
  have hs1i : (s.size : Int) = 1 := by omega
  have hg := toList_get s 0 (by omega)
  obtain ⟨x, hx⟩ : ∃ x, s[0]'(by omega) = x := ⟨_, rfl⟩
  rw [hx, hl] at hg
  have hx2 : x = 42 := by simpa using hg.symm
  have hq : ((x.toNat : Int) == 47) = false := by rw [hx2]; rfl
  clear hl hg hx2
  cases z
  · have HTS := Lib.hid (Res.start w zeroT)
    go_enter Tryz.func83, Tryz.ntmps83
    go_wp2
    exact bodyPost_ret (results10 _ _ w.heap.size 0 0 ⟨#[]⟩ ⟨#[]⟩ ⟨#[]⟩ false 60 rfl rfl HTS.out.res) rfl ⟨rfl, HTS.out.ch⟩
  · have HTS := Lib.hid ((Res.start w zeroT).put 4 (-1) ⟨#[]⟩ ⟨#[]⟩ ⟨#[]⟩ false)
    have HTS2 := Lib.hid (Res.start w (tgt 4 ⟨#[]⟩ (-1) ⟨#[]⟩ ⟨#[]⟩ false))
    go_enter Tryz.func83, Tryz.ntmps83
    go_wp2
    first
    | exact bodyPost_ret (results10 _ _ w.heap.size 4 (-1) ⟨#[]⟩ ⟨#[]⟩ ⟨#[]⟩ false 0 rfl rfl HTS2.out.res) rfl ⟨rfl, HTS2.out.ch⟩
    | exact bodyPost_ret (results10 _ _ w.heap.size 4 (-1) ⟨#[]⟩ ⟨#[]⟩ ⟨#[]⟩ false 0 rfl rfl HTS.out.res) rfl ⟨rfl, HTS.out.ch⟩
theorem slash_http {s : ByteArray} (h : Lib.hasPrefix s.data.toList [47] = true) : isHttp s = false := by
  unfold isHttp
  by_cases h7 : 7 ≤ s.size
  · rw [decide_eq_true h7, Bool.true_and, decide_eq_false_iff_not]
    intro e
    rw [Lib.toList_data, Lib.toList_data] at e
    have e2 : (low (s.extract 0 7)).data.toList[0]? = (low http7).data.toList[0]? := by rw [e]
    have hh := head47 s (by omega)
    rw [h] at hh
    have hc : ((s[0]'(by omega)).toNat : Int) = 47 := beq_iff_eq.1 hh.symm
    have hg := toList_get s 0 (by omega)
    obtain ⟨x, hx⟩ : ∃ x, s[0]'(by omega) = x := ⟨_, rfl⟩
    rw [hx] at hg hc
    have hl : (s.extract 0 7).data.toList[0]? = some x := by
      rw [data_ext, List.getElem?_take, if_pos (by omega), List.getElem?_drop]
      exact hg
    have hx47 : x = 47 := UInt8.toNat_inj.1 (by have : (47 : UInt8).toNat = 47 := rfl; omega)
    have hlow : (low (s.extract 0 7)).data.toList[0]? = some (lowB x) := by
      show (((s.extract 0 7).data.toList.map lowB).toArray.toList)[0]? = _
      rw [List.getElem?_map, hl]
      rfl
    rw [hlow, hx47] at e2
    exact absurd e2 (by decide)
  · rw [decide_eq_false h7, Bool.false_and]
end Go.Proofs.YtjndgkbikhndoaaGreatDoor
