/- Layer 6: Parse, whole. -/
import Derived.Test.YtjndgkbikhndoaaGreatDoorT8
namespace Go.Proofs.YtjndgkbikhndoaaGreatDoor
open Go.RowKit Go.ChangeShapes Go.WideShapes
set_option linter.unusedVariables false

def http7 : ByteArray := ⟨#[104, 116, 116, 112, 58, 47, 47]⟩
/-- Does a text begin with http://, in whatever letters? -/
def isHttp (s : ByteArray) : Bool := decide (7 ≤ s.size) && decide ((low (s.extract 0 7)).toList = (low http7).toList)
set_option maxHeartbeats 4000000 in
set_option maxRecDepth 100000 in
theorem parse_other (m s : ByteArray) (w : World) (h : s.size ≤ 8192) (k : (m.toList == [67, 79, 78, 78, 69, 67, 84]) = false) (k2 : (s.toList == [42]) = false) (k3 : Lib.hasPrefix s.data.toList [47] = false) (k4 : isHttp s = false) :
    Calls Tryz.prog 45 #[.string m, .string s] w fun o w' => o = .returned (.tuple #[.agg zeroT.toArray, .int .i64 60]) ∧ Hid (Chg [] w w') := by
  have h2 : ¬ (8192 : Int) < (s.size : Int) := by omega
  have HTS := Lib.hid (Two.start w (tgt 0 ⟨#[]⟩ (-1) ⟨#[]⟩ ⟨#[]⟩ false))
  have HP := Lib.hid (fun w => Tryz.strings_HasPrefix s ⟨#[47]⟩ w)
  rw [show (⟨#[47]⟩ : ByteArray).data.toList = [47] from rfl, k3] at HP
  clear k3
  by_cases h7 : 7 ≤ s.size
  · have h8 : (7 : Int) ≤ (s.size : Int) := by omega
    unfold isHttp at k4
    rw [decide_eq_true h7, Bool.true_and] at k4
    have hs7 := fun w => slice_to s 7 w h7
    rw [show ((7 : Nat) : Int) = 7 from rfl] at hs7
    have hl := ext_size s 0 7
    generalize s.extract 0 7 = a at *
    have K4 := Lib.hid k4
    clear k4
    go_enter Tryz.func45, Tryz.ntmps45
    go_wp2_with (go_at_call 66; (with_reducible refine (HP.out _).mono ?_); rintro e w' ⟨rfl, hw⟩; rw [hw]; clear hw)
    have HW1 := HTS.out
    change Two w ((w.alloc (.cells #[.int .i64 0, .string ⟨#[]⟩, .int .i64 0, .string ⟨#[]⟩, .string ⟨#[]⟩, .bool false] 76)).alloc (.cells #[.int .i64 0, .string ⟨#[]⟩, .int .i64 (-1), .string ⟨#[]⟩, .string ⟨#[]⟩, .bool false] 76)) _ at HW1
    generalize ((w.alloc (.cells #[.int .i64 0, .string ⟨#[]⟩, .int .i64 0, .string ⟨#[]⟩, .string ⟨#[]⟩, .bool false] 76)).alloc (.cells #[.int .i64 0, .string ⟨#[]⟩, .int .i64 (-1), .string ⟨#[]⟩, .string ⟨#[]⟩, .bool false] 76)) = W1 at *
    refine (same_any a http7 _ (by omega) (by decide) false K4.out).mono ?_
    rintro o W2 ⟨rfl, H2⟩
    have HT2 := Lib.hid (HW1.chg H2.out)
    (have c0 := HT2.out.res.cell 0 _ rfl;
     have c1 := HT2.out.res.cell 1 _ rfl;
     have c2 := HT2.out.res.cell 2 _ rfl;
     have c3 := HT2.out.res.cell 3 _ rfl;
     have c4 := HT2.out.res.cell 4 _ rfl;
     have c5 := HT2.out.res.cell 5 _ rfl;
     have f0 := HT2.out.res.free 0;
     have f1 := HT2.out.res.free 1;
     have f2 := HT2.out.res.free 2;
     have f3 := HT2.out.res.free 3;
     have f4 := HT2.out.res.free 4;
     have f5 := HT2.out.res.free 5)
    have HPZ := Lib.hid (HT2.out.put 0 0 ⟨#[]⟩ ⟨#[]⟩ ⟨#[]⟩ false)
    go_wp2
    exact bodyPost_ret (results9 _ _ w.heap.size 0 0 ⟨#[]⟩ ⟨#[]⟩ ⟨#[]⟩ false 60 rfl rfl HPZ.out.1) rfl ⟨rfl, HPZ.out.2⟩
  · have h8 : ¬ (7 : Int) ≤ (s.size : Int) := by omega
    go_enter Tryz.func45, Tryz.ntmps45
    go_wp2_with (go_at_call 66; (with_reducible refine (HP.out _).mono ?_); rintro e w' ⟨rfl, hw⟩; rw [hw]; clear hw)
    exact bodyPost_ret (results9 _ _ w.heap.size 0 0 ⟨#[]⟩ ⟨#[]⟩ ⟨#[]⟩ false 60 rfl rfl HTS.out.res) rfl ⟨rfl, HTS.out.ch⟩
/-- What a host and a path say together. -/
def httpG (a r : ByteArray) : List Value × Int :=
  if (hostF a).2.2 ≠ 0 then (zeroT, (hostF a).2.2)
  else if locL (cutP r).data.toList (cutQ r).data.toList then (tgt 2 (hostF a).1 (hostF a).2.1 (cutP r) (cutQ r) (cutA r), 0) else (zeroT, 60)
/-- A path begins with /. -/
def rooted (r : ByteArray) : ByteArray := if Lib.hasPrefix r.data.toList [47] then r else ⟨#[47]⟩ ++ r
def cutI (r : ByteArray) (v : Int) : Nat := if v < 0 then r.size else v.toNat
def httpF (r : ByteArray) (v : Int) : List Value × Int := httpG (r.extract 0 (cutI r v)) (rooted (r.extract (cutI r v) r.size))
theorem rooted_len (r : ByteArray) : (rooted r).size ≤ r.size + 1 := by
  unfold rooted
  split
  · omega
  · rw [ByteArray.size_append]
    show 1 + r.size ≤ _
    omega
set_option maxHeartbeats 8000000 in
set_option maxRecDepth 100000 in
theorem parse_http (m s : ByteArray) (w : World) (hE : Hid (Env w)) (h : s.size ≤ 8192) (k : (m.toList == [67, 79, 78, 78, 69, 67, 84]) = false) (k2 : (s.toList == [42]) = false) (k3 : Lib.hasPrefix s.data.toList [47] = false) (k4 : isHttp s = true) :
    Calls Tryz.prog 45 #[.string m, .string s] w fun o w' => (∃ v, IxOK (s.extract 7 s.size).data.toList v ∧ o = .returned (.tuple #[.agg (httpF (s.extract 7 s.size) v).1.toArray, .int .i64 (httpF (s.extract 7 s.size) v).2])) ∧ Hid (Chg [] w w') := by
  have h2 : ¬ (8192 : Int) < (s.size : Int) := by omega
  have HTS := Lib.hid (Two.start w (tgt 2 ⟨#[]⟩ (-1) ⟨#[]⟩ ⟨#[]⟩ false))
  have HTS0 := Lib.hid (Two.start w (tgt 0 ⟨#[]⟩ (-1) ⟨#[]⟩ ⟨#[]⟩ false))
  have HP := Lib.hid (fun w => Tryz.strings_HasPrefix s ⟨#[47]⟩ w)
  rw [show (⟨#[47]⟩ : ByteArray).data.toList = [47] from rfl, k3] at HP
  clear k3
  unfold isHttp at k4
  rw [Bool.and_eq_true] at k4
  obtain ⟨k4, k5⟩ := k4
  have h7 := of_decide_eq_true k4
  clear k4
  have h8 : (7 : Int) ≤ (s.size : Int) := by omega
  have hs7 := fun w => slice_to s 7 w h7
  have ht7 := fun w => slice_from s 7 w h7
  rw [show ((7 : Nat) : Int) = 7 from rfl] at hs7 ht7
  have hl := ext_size s 0 7
  have hl2 := ext_size s 7 s.size
  generalize s.extract 0 7 = a at *
  generalize s.extract 7 s.size = R at *
  have K4 := Lib.hid k5
  clear k5
  go_enter Tryz.func45, Tryz.ntmps45
  go_wp2_with (go_at_call 66; (with_reducible refine (HP.out _).mono ?_); rintro e w' ⟨rfl, hw⟩; rw [hw]; clear hw)
  have HW1 := HTS0.out
  change Two w ((w.alloc (.cells #[.int .i64 0, .string ⟨#[]⟩, .int .i64 0, .string ⟨#[]⟩, .string ⟨#[]⟩, .bool false] 76)).alloc (.cells #[.int .i64 0, .string ⟨#[]⟩, .int .i64 (-1), .string ⟨#[]⟩, .string ⟨#[]⟩, .bool false] 76)) _ at HW1
  generalize ((w.alloc (.cells #[.int .i64 0, .string ⟨#[]⟩, .int .i64 0, .string ⟨#[]⟩, .string ⟨#[]⟩, .bool false] 76)).alloc (.cells #[.int .i64 0, .string ⟨#[]⟩, .int .i64 (-1), .string ⟨#[]⟩, .string ⟨#[]⟩, .bool false] 76)) = W1 at *
  refine (same_any a http7 _ (by omega) (by decide) true K4.out).mono ?_
  rintro o W2 ⟨rfl, H2⟩
  have HT2 := Lib.hid (HW1.chg H2.out)
  have d0 := HT2.out.tg.cell 0 _ rfl
  have g0 := HT2.out.tg.free 0
  go_wp2_with fail
  have HT2s := Lib.hid (HT2.out.set 0 (.int .i64 2))
  generalize W2.setCell ⟨w.heap.size + 1, 0, none⟩ (.int .i64 2) = W2s at *
  refine (index_any R _ (by omega)).mono ?_
  rintro o W3 ⟨⟨v, rfl, hv⟩, H3⟩
  have HT3 := Lib.hid (HT2s.out.chg H3.out)
  have hi1 := hv.2.1
  rw [toList_len] at hi1
  have HV := Lib.hid hv
  clear hv
  obtain ⟨i, hi⟩ : ∃ i, cutI R v = i := ⟨_, rfl⟩
  have hil : i ≤ R.size := by
    rw [← hi]
    unfold cutI
    split <;> omega
  have hsa := fun w => slice_to R i w hil
  have hsb := fun w => slice_from R i w hil
  obtain ⟨A, hA⟩ : ∃ A, R.extract 0 i = A := ⟨_, rfl⟩
  obtain ⟨B, hB⟩ : ∃ B, R.extract i R.size = B := ⟨_, rfl⟩
  have HF : Hid (httpF R v = httpG A (rooted B)) := Lib.hid (by unfold httpF; rw [hi, hA, hB])
  have hla := ext_size R 0 i
  have hlb := ext_size R i R.size
  rw [hA] at hsa hla
  rw [hB] at hsb hlb
  clear hA hB
  by_cases hv0 : v < 0
  · have hie : i = R.size := by rw [← hi]; unfold cutI; rw [if_pos hv0]
    subst hie
    have HI := Lib.hid hi
    clear hi
    go_wp2_with fail
    (obtain ⟨hh, p, e, hz⟩ : ∃ hh p e, hostF A = (hh, p, e) := ⟨_, _, _, rfl⟩;
     have HZ := Lib.hid hz;
     clear hz;
     refine (Host_any A _ (by omega) (Lib.hid (hE.out.chg HT3.out.ch)) hh p e HZ.out).mono ?_;
     rintro o W4 ⟨rfl, H4⟩;
     have HT4 := Lib.hid (HT3.out.chg H4.out);
     clear d0 g0;
     have d1 := HT4.out.tg.cell 1 _ rfl;
     have d2 := HT4.out.tg.cell 2 _ rfl;
     have g1 := HT4.out.tg.free 1;
     have g2 := HT4.out.tg.free 2;
     have HT5 := Lib.hid ((HT4.out.set 1 (.string hh)).set 2 (.int .i64 p));
     have HQ := Lib.hid (fun w => Tryz.strings_HasPrefix B ⟨#[47]⟩ w);
     rw [show (⟨#[47]⟩ : ByteArray).data.toList = [47] from rfl] at HQ;
     go_wp2_with fail;
     clear d1 d2 g1 g2;
     generalize (W4.setCell ⟨w.heap.size + 1, 1, none⟩ (.string hh)).setCell ⟨w.heap.size + 1, 2, none⟩ (.int .i64 p) = W5 at *;
     refine (HQ.out _).mono ?_;
     rintro o W5' ⟨rfl, hw⟩;
     rw [hw];
     clear hw hsa hsb;
     cases hq : Lib.hasPrefix B.data.toList [47];
     · (have hrb : rooted B = ⟨#[47]⟩ ++ B := by (unfold rooted; rw [hq]; rfl);
        have hcat : ¬ (9223372036854775807 < (⟨#[47]⟩ : ByteArray).size + B.size) := by (show ¬ (9223372036854775807 < 1 + B.size); omega);
        have HRB := Lib.hid hrb;
        clear hrb;
        go_wp2_with fail;
        rw [← HRB.out];
        (obtain ⟨z, hzz⟩ : ∃ z, locL (cutP (rooted B)).data.toList (cutQ (rooted B)).data.toList = z := ⟨_, rfl⟩;
         have HZZ := Lib.hid hzz;
         have HE5 := Lib.hid (hE.out.chg HT5.out.ch);
         have HBL : Hid (Blk W5 (w.heap.size + 1) (tgt 2 hh p ⟨#[]⟩ ⟨#[]⟩ false) 76) := Lib.hid HT5.out.tg;
         have hrl := rooted_len B;
         clear hzz;
         generalize rooted B = r at *;
         refine (local_any (w.heap.size + 1) 2 p hh ⟨#[]⟩ ⟨#[]⟩ false r _ (by omega) HE5 HBL z HZZ.out).mono ?_;
         rintro o W6 ⟨rfl, H6⟩;
         have HT2 := Lib.hid (HT5.out.chgB H6.out.1 H6.out.2);
         have d0 := HT2.out.tg.cell 0 _ rfl;
         have d1 := HT2.out.tg.cell 1 _ rfl;
         have d2 := HT2.out.tg.cell 2 _ rfl;
         have d3 := HT2.out.tg.cell 3 _ rfl;
         have d4 := HT2.out.tg.cell 4 _ rfl;
         have d5 := HT2.out.tg.cell 5 _ rfl;
         (have c0 := HT2.out.res.cell 0 _ rfl;
          have c1 := HT2.out.res.cell 1 _ rfl;
          have c2 := HT2.out.res.cell 2 _ rfl;
          have c3 := HT2.out.res.cell 3 _ rfl;
          have c4 := HT2.out.res.cell 4 _ rfl;
          have c5 := HT2.out.res.cell 5 _ rfl;
          have f0 := HT2.out.res.free 0;
          have f1 := HT2.out.res.free 1;
          have f2 := HT2.out.res.free 2;
          have f3 := HT2.out.res.free 3;
          have f4 := HT2.out.res.free 4;
          have f5 := HT2.out.res.free 5);
         have HPZ := Lib.hid (HT2.out.put 0 0 ⟨#[]⟩ ⟨#[]⟩ ⟨#[]⟩ false);
         have HPT := Lib.hid (HT2.out.put 2 p hh (cutP r) (cutQ r) (cutA r));
         by_cases k1 : e = 0;
         · (subst k1;
            cases z;
            · (have HR := Lib.hid (show httpF R v = (zeroT, 60) from by rw [HF.out]; unfold httpG; rw [HZ.out, HZZ.out, if_neg (fun h => h rfl), if_neg (by decide)]);
               go_wp2;
               refine bodyPost_ret (results9 _ _ w.heap.size 0 0 ⟨#[]⟩ ⟨#[]⟩ ⟨#[]⟩ false 60 rfl rfl HPZ.out.1) rfl ⟨⟨_, HV.out, ?_⟩, HPZ.out.2⟩;
               rw [HR.out]; rfl)
            · (have HR := Lib.hid (show httpF R v = (tgt 2 hh p (cutP r) (cutQ r) (cutA r), 0) from by rw [HF.out]; unfold httpG; rw [HZ.out, HZZ.out, if_neg (fun h => h rfl), if_pos rfl]);
               go_wp2;
               refine bodyPost_ret (results9 _ _ w.heap.size 2 p hh (cutP r) (cutQ r) (cutA r) 0 rfl rfl HPT.out.1) rfl ⟨⟨_, HV.out, ?_⟩, HPT.out.2⟩;
               rw [HR.out]))
         · (have HR := Lib.hid (show httpF R v = (zeroT, e) from by rw [HF.out]; unfold httpG; rw [HZ.out, if_pos k1]);
            go_wp2;
            refine bodyPost_ret (results9 _ _ w.heap.size 0 0 ⟨#[]⟩ ⟨#[]⟩ ⟨#[]⟩ false e rfl rfl HPZ.out.1) rfl ⟨⟨_, HV.out, ?_⟩, HPZ.out.2⟩;
            rw [HR.out]; rfl)))
     · (have HRB := Lib.hid (show rooted B = B from by unfold rooted; rw [hq, if_pos rfl]);
        go_wp2_with fail;
        rw [← HRB.out];
        (obtain ⟨z, hzz⟩ : ∃ z, locL (cutP (rooted B)).data.toList (cutQ (rooted B)).data.toList = z := ⟨_, rfl⟩;
         have HZZ := Lib.hid hzz;
         have HE5 := Lib.hid (hE.out.chg HT5.out.ch);
         have HBL : Hid (Blk W5 (w.heap.size + 1) (tgt 2 hh p ⟨#[]⟩ ⟨#[]⟩ false) 76) := Lib.hid HT5.out.tg;
         have hrl := rooted_len B;
         clear hzz;
         generalize rooted B = r at *;
         refine (local_any (w.heap.size + 1) 2 p hh ⟨#[]⟩ ⟨#[]⟩ false r _ (by omega) HE5 HBL z HZZ.out).mono ?_;
         rintro o W6 ⟨rfl, H6⟩;
         have HT2 := Lib.hid (HT5.out.chgB H6.out.1 H6.out.2);
         have d0 := HT2.out.tg.cell 0 _ rfl;
         have d1 := HT2.out.tg.cell 1 _ rfl;
         have d2 := HT2.out.tg.cell 2 _ rfl;
         have d3 := HT2.out.tg.cell 3 _ rfl;
         have d4 := HT2.out.tg.cell 4 _ rfl;
         have d5 := HT2.out.tg.cell 5 _ rfl;
         (have c0 := HT2.out.res.cell 0 _ rfl;
          have c1 := HT2.out.res.cell 1 _ rfl;
          have c2 := HT2.out.res.cell 2 _ rfl;
          have c3 := HT2.out.res.cell 3 _ rfl;
          have c4 := HT2.out.res.cell 4 _ rfl;
          have c5 := HT2.out.res.cell 5 _ rfl;
          have f0 := HT2.out.res.free 0;
          have f1 := HT2.out.res.free 1;
          have f2 := HT2.out.res.free 2;
          have f3 := HT2.out.res.free 3;
          have f4 := HT2.out.res.free 4;
          have f5 := HT2.out.res.free 5);
         have HPZ := Lib.hid (HT2.out.put 0 0 ⟨#[]⟩ ⟨#[]⟩ ⟨#[]⟩ false);
         have HPT := Lib.hid (HT2.out.put 2 p hh (cutP r) (cutQ r) (cutA r));
         by_cases k1 : e = 0;
         · (subst k1;
            cases z;
            · (have HR := Lib.hid (show httpF R v = (zeroT, 60) from by rw [HF.out]; unfold httpG; rw [HZ.out, HZZ.out, if_neg (fun h => h rfl), if_neg (by decide)]);
               go_wp2;
               refine bodyPost_ret (results9 _ _ w.heap.size 0 0 ⟨#[]⟩ ⟨#[]⟩ ⟨#[]⟩ false 60 rfl rfl HPZ.out.1) rfl ⟨⟨_, HV.out, ?_⟩, HPZ.out.2⟩;
               rw [HR.out]; rfl)
            · (have HR := Lib.hid (show httpF R v = (tgt 2 hh p (cutP r) (cutQ r) (cutA r), 0) from by rw [HF.out]; unfold httpG; rw [HZ.out, HZZ.out, if_neg (fun h => h rfl), if_pos rfl]);
               go_wp2;
               refine bodyPost_ret (results9 _ _ w.heap.size 2 p hh (cutP r) (cutQ r) (cutA r) 0 rfl rfl HPT.out.1) rfl ⟨⟨_, HV.out, ?_⟩, HPT.out.2⟩;
               rw [HR.out]))
         · (have HR := Lib.hid (show httpF R v = (zeroT, e) from by rw [HF.out]; unfold httpG; rw [HZ.out, if_pos k1]);
            go_wp2;
            refine bodyPost_ret (results9 _ _ w.heap.size 0 0 ⟨#[]⟩ ⟨#[]⟩ ⟨#[]⟩ false e rfl rfl HPZ.out.1) rfl ⟨⟨_, HV.out, ?_⟩, HPZ.out.2⟩;
            rw [HR.out]; rfl))))
  · obtain ⟨n, hn⟩ : ∃ n : Nat, v = n := ⟨v.toNat, by omega⟩
    have hie : i = n := by rw [← hi]; unfold cutI; rw [if_neg hv0]; omega
    subst hie
    subst hn
    clear hi
    go_wp2_with fail
    (obtain ⟨hh, p, e, hz⟩ : ∃ hh p e, hostF A = (hh, p, e) := ⟨_, _, _, rfl⟩;
     have HZ := Lib.hid hz;
     clear hz;
     refine (Host_any A _ (by omega) (Lib.hid (hE.out.chg HT3.out.ch)) hh p e HZ.out).mono ?_;
     rintro o W4 ⟨rfl, H4⟩;
     have HT4 := Lib.hid (HT3.out.chg H4.out);
     clear d0 g0;
     have d1 := HT4.out.tg.cell 1 _ rfl;
     have d2 := HT4.out.tg.cell 2 _ rfl;
     have g1 := HT4.out.tg.free 1;
     have g2 := HT4.out.tg.free 2;
     have HT5 := Lib.hid ((HT4.out.set 1 (.string hh)).set 2 (.int .i64 p));
     have HQ := Lib.hid (fun w => Tryz.strings_HasPrefix B ⟨#[47]⟩ w);
     rw [show (⟨#[47]⟩ : ByteArray).data.toList = [47] from rfl] at HQ;
     go_wp2_with fail;
     clear d1 d2 g1 g2;
     generalize (W4.setCell ⟨w.heap.size + 1, 1, none⟩ (.string hh)).setCell ⟨w.heap.size + 1, 2, none⟩ (.int .i64 p) = W5 at *;
     refine (HQ.out _).mono ?_;
     rintro o W5' ⟨rfl, hw⟩;
     rw [hw];
     clear hw hsa hsb;
     cases hq : Lib.hasPrefix B.data.toList [47];
     · (have hrb : rooted B = ⟨#[47]⟩ ++ B := by (unfold rooted; rw [hq]; rfl);
        have hcat : ¬ (9223372036854775807 < (⟨#[47]⟩ : ByteArray).size + B.size) := by (show ¬ (9223372036854775807 < 1 + B.size); omega);
        have HRB := Lib.hid hrb;
        clear hrb;
        go_wp2_with fail;
        rw [← HRB.out];
        (obtain ⟨z, hzz⟩ : ∃ z, locL (cutP (rooted B)).data.toList (cutQ (rooted B)).data.toList = z := ⟨_, rfl⟩;
         have HZZ := Lib.hid hzz;
         have HE5 := Lib.hid (hE.out.chg HT5.out.ch);
         have HBL : Hid (Blk W5 (w.heap.size + 1) (tgt 2 hh p ⟨#[]⟩ ⟨#[]⟩ false) 76) := Lib.hid HT5.out.tg;
         have hrl := rooted_len B;
         clear hzz;
         generalize rooted B = r at *;
         refine (local_any (w.heap.size + 1) 2 p hh ⟨#[]⟩ ⟨#[]⟩ false r _ (by omega) HE5 HBL z HZZ.out).mono ?_;
         rintro o W6 ⟨rfl, H6⟩;
         have HT2 := Lib.hid (HT5.out.chgB H6.out.1 H6.out.2);
         have d0 := HT2.out.tg.cell 0 _ rfl;
         have d1 := HT2.out.tg.cell 1 _ rfl;
         have d2 := HT2.out.tg.cell 2 _ rfl;
         have d3 := HT2.out.tg.cell 3 _ rfl;
         have d4 := HT2.out.tg.cell 4 _ rfl;
         have d5 := HT2.out.tg.cell 5 _ rfl;
         (have c0 := HT2.out.res.cell 0 _ rfl;
          have c1 := HT2.out.res.cell 1 _ rfl;
          have c2 := HT2.out.res.cell 2 _ rfl;
          have c3 := HT2.out.res.cell 3 _ rfl;
          have c4 := HT2.out.res.cell 4 _ rfl;
          have c5 := HT2.out.res.cell 5 _ rfl;
          have f0 := HT2.out.res.free 0;
          have f1 := HT2.out.res.free 1;
          have f2 := HT2.out.res.free 2;
          have f3 := HT2.out.res.free 3;
          have f4 := HT2.out.res.free 4;
          have f5 := HT2.out.res.free 5);
         have HPZ := Lib.hid (HT2.out.put 0 0 ⟨#[]⟩ ⟨#[]⟩ ⟨#[]⟩ false);
         have HPT := Lib.hid (HT2.out.put 2 p hh (cutP r) (cutQ r) (cutA r));
         by_cases k1 : e = 0;
         · (subst k1;
            cases z;
            · (have HR := Lib.hid (show httpF R (i : Int) = (zeroT, 60) from by rw [HF.out]; unfold httpG; rw [HZ.out, HZZ.out, if_neg (fun h => h rfl), if_neg (by decide)]);
               go_wp2;
               refine bodyPost_ret (results9 _ _ w.heap.size 0 0 ⟨#[]⟩ ⟨#[]⟩ ⟨#[]⟩ false 60 rfl rfl HPZ.out.1) rfl ⟨⟨_, HV.out, ?_⟩, HPZ.out.2⟩;
               rw [HR.out]; rfl)
            · (have HR := Lib.hid (show httpF R (i : Int) = (tgt 2 hh p (cutP r) (cutQ r) (cutA r), 0) from by rw [HF.out]; unfold httpG; rw [HZ.out, HZZ.out, if_neg (fun h => h rfl), if_pos rfl]);
               go_wp2;
               refine bodyPost_ret (results9 _ _ w.heap.size 2 p hh (cutP r) (cutQ r) (cutA r) 0 rfl rfl HPT.out.1) rfl ⟨⟨_, HV.out, ?_⟩, HPT.out.2⟩;
               rw [HR.out]))
         · (have HR := Lib.hid (show httpF R (i : Int) = (zeroT, e) from by rw [HF.out]; unfold httpG; rw [HZ.out, if_pos k1]);
            go_wp2;
            refine bodyPost_ret (results9 _ _ w.heap.size 0 0 ⟨#[]⟩ ⟨#[]⟩ ⟨#[]⟩ false e rfl rfl HPZ.out.1) rfl ⟨⟨_, HV.out, ?_⟩, HPZ.out.2⟩;
            rw [HR.out]; rfl)))
     · (have HRB := Lib.hid (show rooted B = B from by unfold rooted; rw [hq, if_pos rfl]);
        go_wp2_with fail;
        rw [← HRB.out];
        (obtain ⟨z, hzz⟩ : ∃ z, locL (cutP (rooted B)).data.toList (cutQ (rooted B)).data.toList = z := ⟨_, rfl⟩;
         have HZZ := Lib.hid hzz;
         have HE5 := Lib.hid (hE.out.chg HT5.out.ch);
         have HBL : Hid (Blk W5 (w.heap.size + 1) (tgt 2 hh p ⟨#[]⟩ ⟨#[]⟩ false) 76) := Lib.hid HT5.out.tg;
         have hrl := rooted_len B;
         clear hzz;
         generalize rooted B = r at *;
         refine (local_any (w.heap.size + 1) 2 p hh ⟨#[]⟩ ⟨#[]⟩ false r _ (by omega) HE5 HBL z HZZ.out).mono ?_;
         rintro o W6 ⟨rfl, H6⟩;
         have HT2 := Lib.hid (HT5.out.chgB H6.out.1 H6.out.2);
         have d0 := HT2.out.tg.cell 0 _ rfl;
         have d1 := HT2.out.tg.cell 1 _ rfl;
         have d2 := HT2.out.tg.cell 2 _ rfl;
         have d3 := HT2.out.tg.cell 3 _ rfl;
         have d4 := HT2.out.tg.cell 4 _ rfl;
         have d5 := HT2.out.tg.cell 5 _ rfl;
         (have c0 := HT2.out.res.cell 0 _ rfl;
          have c1 := HT2.out.res.cell 1 _ rfl;
          have c2 := HT2.out.res.cell 2 _ rfl;
          have c3 := HT2.out.res.cell 3 _ rfl;
          have c4 := HT2.out.res.cell 4 _ rfl;
          have c5 := HT2.out.res.cell 5 _ rfl;
          have f0 := HT2.out.res.free 0;
          have f1 := HT2.out.res.free 1;
          have f2 := HT2.out.res.free 2;
          have f3 := HT2.out.res.free 3;
          have f4 := HT2.out.res.free 4;
          have f5 := HT2.out.res.free 5);
         have HPZ := Lib.hid (HT2.out.put 0 0 ⟨#[]⟩ ⟨#[]⟩ ⟨#[]⟩ false);
         have HPT := Lib.hid (HT2.out.put 2 p hh (cutP r) (cutQ r) (cutA r));
         by_cases k1 : e = 0;
         · (subst k1;
            cases z;
            · (have HR := Lib.hid (show httpF R (i : Int) = (zeroT, 60) from by rw [HF.out]; unfold httpG; rw [HZ.out, HZZ.out, if_neg (fun h => h rfl), if_neg (by decide)]);
               go_wp2;
               refine bodyPost_ret (results9 _ _ w.heap.size 0 0 ⟨#[]⟩ ⟨#[]⟩ ⟨#[]⟩ false 60 rfl rfl HPZ.out.1) rfl ⟨⟨_, HV.out, ?_⟩, HPZ.out.2⟩;
               rw [HR.out]; rfl)
            · (have HR := Lib.hid (show httpF R (i : Int) = (tgt 2 hh p (cutP r) (cutQ r) (cutA r), 0) from by rw [HF.out]; unfold httpG; rw [HZ.out, HZZ.out, if_neg (fun h => h rfl), if_pos rfl]);
               go_wp2;
               refine bodyPost_ret (results9 _ _ w.heap.size 2 p hh (cutP r) (cutQ r) (cutA r) 0 rfl rfl HPT.out.1) rfl ⟨⟨_, HV.out, ?_⟩, HPT.out.2⟩;
               rw [HR.out]))
         · (have HR := Lib.hid (show httpF R (i : Int) = (zeroT, e) from by rw [HF.out]; unfold httpG; rw [HZ.out, if_pos k1]);
            go_wp2;
            refine bodyPost_ret (results9 _ _ w.heap.size 0 0 ⟨#[]⟩ ⟨#[]⟩ ⟨#[]⟩ false e rfl rfl HPZ.out.1) rfl ⟨⟨_, HV.out, ?_⟩, HPZ.out.2⟩;
            rw [HR.out]; rfl))))
end Go.Proofs.YtjndgkbikhndoaaGreatDoor
