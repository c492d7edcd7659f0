/- Layer 6: Parse, its ways. -/
import Derived.Test.YtjndgkbikhndoaaGreatDoorT7
import Derived.Laws.Rows
namespace Go.Proofs.YtjndgkbikhndoaaGreatDoor
open Go.RowKit Go.ChangeShapes Go.WideShapes
set_option linter.unusedVariables false

def zeroT : List Value := tgt 0 ⟨#[]⟩ 0 ⟨#[]⟩ ⟨#[]⟩ false
set_option maxRecDepth 100000 in
theorem results9 (tmps : Array Value) (w : World) (b : Nat) (f p : Int) (h pa q : ByteArray) (a : Bool) (e : Int) (ht : tmps.getD 4 undef = .pointer (some ⟨b, 0, none⟩)) (he : tmps.getD 5 undef = .int .i64 e) (hb : Blk w b (tgt f h p pa q a) 76) :
    (results Tryz.f45 tmps).run Tryz.prog w = .ok (.tuple #[.agg (tgt f h p pa q a).toArray, .int .i64 e]) w := by
  have hres : Tryz.f45.results = #[.cell 4 76, .tmp 5] := by kernel_rfl
  have hi : (Tryz.prog.info? 76).map (·.size) = some (tgt f h p pa q a).toArray.size := by
    have : (Tryz.prog.info? 76).map (·.size) = some 6 := by kernel_rfl
    exact this
  have hv : (loadVar 76 ⟨b, 0, none⟩).run Tryz.prog w = .ok (.agg (tgt f h p pa q a).toArray) w := run_loadVar_row w b 76 76 _ (0, 0) _ hb Tryz.underlying76 rfl hi
  have ht' : tmps[4]?.getD undef = .pointer (some ⟨b, 0, none⟩) := by rw [← Array.getD_eq_getD_getElem?]; exact ht
  have he' : tmps[5]?.getD undef = .int .i64 e := by rw [← Array.getD_eq_getD_getElem?]; exact he
  simp [results, ht', he', hv, Result.andThen, asAddr]
/-- In the midst of Parse: the result's block still holds nothing, the next one the target vs. -/
structure Two (w W : World) (vs : List Value) : Prop where
  res : Blk W w.heap.size zeroT 76
  tg : Blk W (w.heap.size + 1) vs 76
  ch : Chg [] w W
theorem Two.start (w : World) (vs : List Value) : Two w ((w.alloc (.cells zeroT.toArray 76)).alloc (.cells vs.toArray 76)) vs := by
  refine ⟨(Blk.new w zeroT 76).alloc _, ?_, ((Chg.refl [] w).alloc _).alloc _⟩
  have := Blk.new (w.alloc (.cells zeroT.toArray 76)) vs 76
  rw [show (w.alloc (.cells zeroT.toArray 76)).heap.size = w.heap.size + 1 by simp] at this
  exact this
theorem Two.chg {w W W' : World} {vs : List Value} (h : Two w W vs) (hc : Chg [] W W') : Two w W' vs := ⟨h.res.chg hc (by simp), h.tg.chg hc (by simp), h.ch.trans hc (by simp)⟩
theorem Two.chgB {w W W' : World} {vs vs' : List Value} (h : Two w W vs) (hb : Blk W' (w.heap.size + 1) vs' 76) (hc : Chg [w.heap.size + 1] W W') : Two w W' vs' :=
  ⟨h.res.chg hc (by simp), hb, h.ch.trans hc (by intro i hi hlt; simp at hi; omega)⟩
theorem Two.set {w W : World} {vs : List Value} (h : Two w W vs) (i : Nat) (v : Value) : Two w (W.setCell ⟨w.heap.size + 1, i, none⟩ v) (vs.set i v) :=
  ⟨h.res.other (by show w.heap.size ≠ w.heap.size + 1; omega) _, h.tg.set i v, h.ch.setCell (by intro h; have : w.heap.size + 1 < w.heap.size := h; omega) _⟩
/-- What is laid into the result's block behind it. -/
def put6 (w W : World) (a b c d e f : Value) : World := (((((W.setCell ⟨w.heap.size, 0, none⟩ a).setCell ⟨w.heap.size, 1, none⟩ b).setCell ⟨w.heap.size, 2, none⟩ c).setCell ⟨w.heap.size, 3, none⟩ d).setCell ⟨w.heap.size, 4, none⟩ e).setCell ⟨w.heap.size, 5, none⟩ f
theorem Two.put {w W : World} {vs : List Value} (h : Two w W vs) (f p : Int) (hh pa q : ByteArray) (a : Bool) : Blk (put6 w W (.int .i64 f) (.string hh) (.int .i64 p) (.string pa) (.string q) (.bool a)) w.heap.size (tgt f hh p pa q a) 76 ∧ Chg [] w (put6 w W (.int .i64 f) (.string hh) (.int .i64 p) (.string pa) (.string q) (.bool a)) := by
  refine ⟨?_, ?_⟩
  · have := (((((h.res.set 0 (.int .i64 f)).set 1 (.string hh)).set 2 (.int .i64 p)).set 3 (.string pa)).set 4 (.string q)).set 5 (.bool a)
    exact this
  · unfold put6
    exact (((((h.ch.setCell (by intro h; simp at h) _).setCell (by intro h; simp at h) _).setCell (by intro h; simp at h) _).setCell (by intro h; simp at h) _).setCell (by intro h; simp at h) _).setCell (by intro h; simp at h) _
set_option maxHeartbeats 4000000 in
set_option maxRecDepth 100000 in
theorem parse_long (m s : ByteArray) (w : World) (h : 8192 < s.size) :
    Calls Tryz.prog 45 #[.string m, .string s] w fun o w' => o = .returned (.tuple #[.agg zeroT.toArray, .int .i64 2]) ∧ Hid (Chg [] w w') := by
  have h2 : (8192 : Int) < (s.size : Int) := by omega
  have HB := Lib.hid (Blk.new w zeroT 76)
  have HC := Lib.hid ((Chg.refl [] w).alloc (.cells zeroT.toArray 76))
  go_enter Tryz.func45, Tryz.ntmps45
  go_wp2
  exact bodyPost_ret (results9 _ _ w.heap.size 0 0 ⟨#[]⟩ ⟨#[]⟩ ⟨#[]⟩ false 2 rfl rfl HB.out) rfl ⟨rfl, HC.out⟩
/-- The target of a CONNECT. -/
def connF (s : ByteArray) : List Value × Int :=
  if (hostF s).2.2 ≠ 0 then (zeroT, (hostF s).2.2) else if (hostF s).2.1 < 0 then (zeroT, 62) else (tgt 3 (hostF s).1 (hostF s).2.1 ⟨#[]⟩ ⟨#[]⟩ false, 0)
set_option maxHeartbeats 4000000 in
set_option maxRecDepth 100000 in
theorem parse_conn (m s : ByteArray) (w : World) (hE : Hid (Env w)) (h : s.size ≤ 8192) (k : (m.toList == [67, 79, 78, 78, 69, 67, 84]) = true) :
    Calls Tryz.prog 45 #[.string m, .string s] w fun o w' => o = .returned (.tuple #[.agg (connF s).1.toArray, .int .i64 (connF s).2]) ∧ Hid (Chg [] w w') := by
  have h2 : ¬ (8192 : Int) < (s.size : Int) := by omega
  obtain ⟨hh, p, e, hz⟩ : ∃ hh p e, hostF s = (hh, p, e) := ⟨_, _, _, rfl⟩
  have HTS := Lib.hid (Two.start w (tgt 3 ⟨#[]⟩ (-1) ⟨#[]⟩ ⟨#[]⟩ false))
  have hcf : connF s = if e ≠ 0 then (zeroT, e) else if p < 0 then (zeroT, 62) else (tgt 3 hh p ⟨#[]⟩ ⟨#[]⟩ false, 0) := by
    unfold connF
    rw [hz]
  have HZ := Lib.hid hz
  have HCF := Lib.hid hcf
  clear hz hcf
  go_enter Tryz.func45, Tryz.ntmps45
  go_wp2_with fail
  have HW1 := HTS.out
  change Two w ((w.alloc (.cells #[.int .i64 0, .string ⟨#[]⟩, .int .i64 0, .string ⟨#[]⟩, .string ⟨#[]⟩, .bool false] 76)).alloc (.cells #[.int .i64 3, .string ⟨#[]⟩, .int .i64 (-1), .string ⟨#[]⟩, .string ⟨#[]⟩, .bool false] 76)) _ at HW1
  generalize (w.alloc (.cells #[.int .i64 0, .string ⟨#[]⟩, .int .i64 0, .string ⟨#[]⟩, .string ⟨#[]⟩, .bool false] 76)).alloc (.cells #[.int .i64 3, .string ⟨#[]⟩, .int .i64 (-1), .string ⟨#[]⟩, .string ⟨#[]⟩, .bool false] 76) = W1 at *
  have HE1 := Lib.hid (hE.out.chg HW1.ch)
  refine (Host_any s _ (by omega) HE1 hh p e HZ.out).mono ?_
  rintro o W2 ⟨rfl, H2⟩
  have HT2 := Lib.hid (HW1.chg H2.out)
  have d1 := HT2.out.tg.cell 1 _ rfl
  have d2 := HT2.out.tg.cell 2 _ rfl
  have g1 := HT2.out.tg.free 1
  have g2 := HT2.out.tg.free 2
  have HT := Lib.hid ((HT2.out.set 1 (.string hh)).set 2 (.int .i64 p))
  have d0 := HT2.out.tg.cell 0 _ rfl
  have d3 := HT2.out.tg.cell 3 _ rfl
  have d4 := HT2.out.tg.cell 4 _ rfl
  have d5 := HT2.out.tg.cell 5 _ rfl
  (have c0 := HT2.out.res.cell 0 _ rfl;
   have c1 := HT2.out.res.cell 1 _ rfl;
   have c2 := HT2.out.res.cell 2 _ rfl;
   have c3 := HT2.out.res.cell 3 _ rfl;
   have c4 := HT2.out.res.cell 4 _ rfl;
   have c5 := HT2.out.res.cell 5 _ rfl;
   have f0 := HT2.out.res.free 0;
   have f1 := HT2.out.res.free 1;
   have f2 := HT2.out.res.free 2;
   have f3 := HT2.out.res.free 3;
   have f4 := HT2.out.res.free 4;
   have f5 := HT2.out.res.free 5)
  have HPZ := Lib.hid (HT.out.put 0 0 ⟨#[]⟩ ⟨#[]⟩ ⟨#[]⟩ false)
  have HPT := Lib.hid (HT.out.put 3 p hh ⟨#[]⟩ ⟨#[]⟩ false)
  by_cases k1 : e = 0
  · subst k1
    by_cases k2 : p < 0
    · have HR : Hid (connF s = (zeroT, 62)) := Lib.hid (by rw [HCF.out, if_neg (by decide), if_pos k2])
      go_wp2
      rw [HR.out]
      exact bodyPost_ret (results9 _ _ w.heap.size 0 0 ⟨#[]⟩ ⟨#[]⟩ ⟨#[]⟩ false 62 rfl rfl HPZ.out.1) rfl ⟨rfl, HPZ.out.2⟩
    · have HR : Hid (connF s = (tgt 3 hh p ⟨#[]⟩ ⟨#[]⟩ false, 0)) := Lib.hid (by rw [HCF.out, if_neg (by decide), if_neg k2])
      go_wp2
      rw [HR.out]
      exact bodyPost_ret (results9 _ _ w.heap.size 3 p hh ⟨#[]⟩ ⟨#[]⟩ false 0 rfl rfl HPT.out.1) rfl ⟨rfl, HPT.out.2⟩
  · have HR : Hid (connF s = (zeroT, e)) := Lib.hid (by rw [HCF.out, if_pos k1])
    go_wp2
    rw [HR.out]
    exact bodyPost_ret (results9 _ _ w.heap.size 0 0 ⟨#[]⟩ ⟨#[]⟩ ⟨#[]⟩ false e rfl rfl HPZ.out.1) rfl ⟨rfl, HPZ.out.2⟩
set_option maxHeartbeats 4000000 in
set_option maxRecDepth 100000 in
theorem parse_star (m s : ByteArray) (w : World) (h : s.size ≤ 8192) (k : (m.toList == [67, 79, 78, 78, 69, 67, 84]) = false) (k2 : (s.toList == [42]) = true) (z : Bool) (k3 : (m.toList == [79, 80, 84, 73, 79, 78, 83]) = z) :
    Calls Tryz.prog 45 #[.string m, .string s] w fun o w' => o = .returned (.tuple #[.agg (if z then tgt 4 ⟨#[]⟩ (-1) ⟨#[]⟩ ⟨#[]⟩ false else zeroT).toArray, .int .i64 (if z then 0 else 60)]) ∧ Hid (Chg [] w w') := by
  have h2 : ¬ (8192 : Int) < (s.size : Int) := by omega
  cases z
  · have HTS := Lib.hid (Two.start w (tgt 4 ⟨#[]⟩ (-1) ⟨#[]⟩ ⟨#[]⟩ false))
    go_enter Tryz.func45, Tryz.ntmps45
    go_wp2
    exact bodyPost_ret (results9 _ _ w.heap.size 0 0 ⟨#[]⟩ ⟨#[]⟩ ⟨#[]⟩ false 60 rfl rfl HTS.out.res) rfl ⟨rfl, HTS.out.ch⟩
  · have HB := Lib.hid ((Blk.new w (tgt 4 ⟨#[]⟩ (-1) ⟨#[]⟩ ⟨#[]⟩ false) 76).alloc (.cells (tgt 4 ⟨#[]⟩ (-1) ⟨#[]⟩ ⟨#[]⟩ false).toArray 76))
    have HC := Lib.hid (((Chg.refl [] w).alloc (.cells (tgt 4 ⟨#[]⟩ (-1) ⟨#[]⟩ ⟨#[]⟩ false).toArray 76)).alloc (.cells (tgt 4 ⟨#[]⟩ (-1) ⟨#[]⟩ ⟨#[]⟩ false).toArray 76))
    go_enter Tryz.func45, Tryz.ntmps45
    go_wp2
    exact bodyPost_ret (results9 _ _ w.heap.size 4 (-1) ⟨#[]⟩ ⟨#[]⟩ ⟨#[]⟩ false 0 rfl rfl HB.out) rfl ⟨rfl, HC.out⟩
/-- The target of a path. -/
def slashF (s : ByteArray) : List Value × Int :=
  if locL (cutP s).data.toList (cutQ s).data.toList then (tgt 1 ⟨#[]⟩ (-1) (cutP s) (cutQ s) (cutA s), 0) else (zeroT, 60)
set_option maxHeartbeats 4000000 in
set_option maxRecDepth 100000 in
theorem parse_slash (m s : ByteArray) (w : World) (hE : Hid (Env w)) (h : s.size ≤ 8192) (k : (m.toList == [67, 79, 78, 78, 69, 67, 84]) = false) (k2 : (s.toList == [42]) = false) (k3 : Lib.hasPrefix s.data.toList [47] = true) :
    Calls Tryz.prog 45 #[.string m, .string s] w fun o w' => o = .returned (.tuple #[.agg (slashF s).1.toArray, .int .i64 (slashF s).2]) ∧ Hid (Chg [] w w') := by
  have h2 : ¬ (8192 : Int) < (s.size : Int) := by omega
  have HTS := Lib.hid (Two.start w (tgt 1 ⟨#[]⟩ (-1) ⟨#[]⟩ ⟨#[]⟩ false))
  have HP := Lib.hid (fun w => Tryz.strings_HasPrefix s ⟨#[47]⟩ w)
  rw [show (⟨#[47]⟩ : ByteArray).data.toList = [47] from rfl, k3] at HP
  obtain ⟨z, hz⟩ : ∃ z, locL (cutP s).data.toList (cutQ s).data.toList = z := ⟨_, rfl⟩
  have HZ := Lib.hid hz
  clear hz k3
  go_enter Tryz.func45, Tryz.ntmps45
  go_wp2_with (go_at_call 66; (with_reducible refine (HP.out _).mono ?_); rintro e w' ⟨rfl, hw⟩; rw [hw]; clear hw)
  have HW1 := HTS.out
  change Two w ((w.alloc (.cells #[.int .i64 0, .string ⟨#[]⟩, .int .i64 0, .string ⟨#[]⟩, .string ⟨#[]⟩, .bool false] 76)).alloc (.cells #[.int .i64 1, .string ⟨#[]⟩, .int .i64 (-1), .string ⟨#[]⟩, .string ⟨#[]⟩, .bool false] 76)) _ at HW1
  generalize ((w.alloc (.cells #[.int .i64 0, .string ⟨#[]⟩, .int .i64 0, .string ⟨#[]⟩, .string ⟨#[]⟩, .bool false] 76)).alloc (.cells #[.int .i64 1, .string ⟨#[]⟩, .int .i64 (-1), .string ⟨#[]⟩, .string ⟨#[]⟩, .bool false] 76)) = W1 at *
  have HE1 := Lib.hid (hE.out.chg HW1.ch)
  refine (local_any (w.heap.size + 1) 1 (-1) ⟨#[]⟩ ⟨#[]⟩ ⟨#[]⟩ false s _ (by omega) HE1 (Lib.hid HW1.tg) z HZ.out).mono ?_
  rintro o W2 ⟨rfl, H2⟩
  have HT2 := Lib.hid (HW1.chgB H2.out.1 H2.out.2)
  have d0 := HT2.out.tg.cell 0 _ rfl
  have d1 := HT2.out.tg.cell 1 _ rfl
  have d2 := HT2.out.tg.cell 2 _ rfl
  have d3 := HT2.out.tg.cell 3 _ rfl
  have d4 := HT2.out.tg.cell 4 _ rfl
  have d5 := HT2.out.tg.cell 5 _ rfl
  (have c0 := HT2.out.res.cell 0 _ rfl;
   have c1 := HT2.out.res.cell 1 _ rfl;
   have c2 := HT2.out.res.cell 2 _ rfl;
   have c3 := HT2.out.res.cell 3 _ rfl;
   have c4 := HT2.out.res.cell 4 _ rfl;
   have c5 := HT2.out.res.cell 5 _ rfl;
   have f0 := HT2.out.res.free 0;
   have f1 := HT2.out.res.free 1;
   have f2 := HT2.out.res.free 2;
   have f3 := HT2.out.res.free 3;
   have f4 := HT2.out.res.free 4;
   have f5 := HT2.out.res.free 5)
  have HPZ := Lib.hid (HT2.out.put 0 0 ⟨#[]⟩ ⟨#[]⟩ ⟨#[]⟩ false)
  have HPT := Lib.hid (HT2.out.put 1 (-1) ⟨#[]⟩ (cutP s) (cutQ s) (cutA s))
  cases z
  · have HR : Hid (slashF s = (zeroT, 60)) := Lib.hid (by unfold slashF; rw [HZ.out, if_neg (by decide)])
    go_wp2
    rw [HR.out]
    exact bodyPost_ret (results9 _ _ w.heap.size 0 0 ⟨#[]⟩ ⟨#[]⟩ ⟨#[]⟩ false 60 rfl rfl HPZ.out.1) rfl ⟨rfl, HPZ.out.2⟩
  · have HR : Hid (slashF s = (tgt 1 ⟨#[]⟩ (-1) (cutP s) (cutQ s) (cutA s), 0)) := Lib.hid (by unfold slashF; rw [HZ.out, if_pos rfl])
    go_wp2
    rw [HR.out]
    exact bodyPost_ret (results9 _ _ w.heap.size 1 (-1) ⟨#[]⟩ (cutP s) (cutQ s) (cutA s) 0 rfl rfl HPT.out.1) rfl ⟨rfl, HPT.out.2⟩
end Go.Proofs.YtjndgkbikhndoaaGreatDoor
