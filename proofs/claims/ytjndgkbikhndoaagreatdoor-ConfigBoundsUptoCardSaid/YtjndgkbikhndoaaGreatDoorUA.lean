/- Layer 6, the reference: Parse, the way of http, and whole. -/
import Derived.Test.YtjndgkbikhndoaaGreatDoorU9
namespace Go.Proofs.YtjndgkbikhndoaaGreatDoor
open Go.RowKit Go.ChangeShapes Go.WideShapes
set_option linter.unusedVariables false

/-- No slash in front: the second look says no. -/
theorem noslash {s : ByteArray} (h : Lib.hasPrefix s.data.toList [47] = false) (h0 : 0 < s.size) : (((s[0]'h0).toNat : Int) == 47) = false := by
  rw [← head47 s h0]
  exact h
theorem lowhttp (A : ByteArray) : decide ((low A).toList = (low http7).toList) = ((⟨(A.data.toList.map lowB).toArray⟩ : ByteArray).toList == [104, 116, 116, 112, 58, 47, 47]) := by
  rw [Bool.eq_iff_iff, beq_iff_eq, decide_eq_true_eq]
  rw [show (low A).toList = (⟨(A.data.toList.map lowB).toArray⟩ : ByteArray).toList from rfl, show (low http7).toList = [104, 116, 116, 112, 58, 47, 47] by rw [Lib.toList_data]; rfl]
set_option maxHeartbeats 4000000 in
set_option maxRecDepth 100000 in
theorem rparse_other (m s : ByteArray) (w : World) (h : s.size ≤ 8192) (k : (m.toList == [67, 79, 78, 78, 69, 67, 84]) = false) (k2 : (s.toList == [42]) = false) (k3 : Lib.hasPrefix s.data.toList [47] = false) (k4 : isHttp s = false) :
    Calls Tryz.prog 83 #[.string m, .string s] w fun o w' => o = .returned (.tuple #[.agg zeroT.toArray, .int .i64 60]) ∧ Hid (Chg [] w w') := by
  have h2 : ¬ (8192 : Int) < (s.size : Int) := by omega
  by_cases h0 : 0 < s.size
  · have h0i : (0 : Int) < (s.size : Int) := by omega
    have hq47 := noslash k3 h0
    obtain ⟨x, hx⟩ : ∃ x, s[0]'h0 = x := ⟨_, rfl⟩
    rw [hx] at hq47
    clear k3
    have HTS := Lib.hid (Res.start w zeroT)
    by_cases h7 : 7 ≤ s.size
    · have h8 : ¬ (s.size : Int) < 7 := by omega
      have hsl := fun w => slice_to s 7 w h7
      rw [show ((7 : Nat) : Int) = 7 from rfl] at hsl
      have hlA := ext_size s 0 7
      unfold isHttp at k4
      rw [decide_eq_true h7, Bool.true_and, lowhttp] at k4
      generalize s.extract 0 7 = A at *
      go_enter Tryz.func83, Tryz.ntmps83
      go_wp2_with fail
      have HW1 := HTS.out
      change Res w (w.alloc (.cells #[.int .i64 0, .string ⟨#[]⟩, .int .i64 0, .string ⟨#[]⟩, .string ⟨#[]⟩, .bool false] 76)) _ _ at HW1
      generalize (w.alloc (.cells #[.int .i64 0, .string ⟨#[]⟩, .int .i64 0, .string ⟨#[]⟩, .string ⟨#[]⟩, .bool false] 76)) = W1 at HW1 ⊢
      generalize w.heap.size = b at HW1 ⊢
      refine (rlower_any A _ (by omega)).mono ?_
      rintro o W4 ⟨rfl, H4⟩
      have HR := HW1.chg H4.out
      clear HW1
      have HPZ := Lib.hid (HR.put 0 0 ⟨#[]⟩ ⟨#[]⟩ ⟨#[]⟩ false)
      (have c0 := HR.res.cell 0 _ rfl;
       have c1 := HR.res.cell 1 _ rfl;
       have c2 := HR.res.cell 2 _ rfl;
       have c3 := HR.res.cell 3 _ rfl;
       have c4 := HR.res.cell 4 _ rfl;
       have c5 := HR.res.cell 5 _ rfl;
       have f0 := HR.res.free 0;
       have f1 := HR.res.free 1;
       have f2 := HR.res.free 2;
       have f3 := HR.res.free 3;
       have f4 := HR.res.free 4;
       have f5 := HR.res.free 5)
      clear HR
      generalize (⟨(A.data.toList.map lowB).toArray⟩ : ByteArray) = LA at k4 ⊢
      go_wp2
      exact bodyPost_ret (results10 _ _ b 0 0 ⟨#[]⟩ ⟨#[]⟩ ⟨#[]⟩ false 60 rfl rfl HPZ.out.res) rfl ⟨rfl, HPZ.out.ch⟩
    · have h8 : (s.size : Int) < 7 := by omega
      go_enter Tryz.func83, Tryz.ntmps83
      go_wp2
      exact bodyPost_ret (results10 _ _ w.heap.size 0 0 ⟨#[]⟩ ⟨#[]⟩ ⟨#[]⟩ false 60 rfl rfl HTS.out.res) rfl ⟨rfl, HTS.out.ch⟩
  · have h0i : ¬ (0 : Int) < (s.size : Int) := by omega
    clear k3
    have HTS := Lib.hid (Res.start w zeroT)
    have h8 : (s.size : Int) < 7 := by omega
    go_enter Tryz.func83, Tryz.ntmps83
    go_wp2
    exact bodyPost_ret (results10 _ _ w.heap.size 0 0 ⟨#[]⟩ ⟨#[]⟩ ⟨#[]⟩ false 60 rfl rfl HTS.out.res) rfl ⟨rfl, HTS.out.ch⟩
theorem ixany_first {l : List UInt8} {i : Nat} {c : UInt8} (h : l[i]? = some c) (hc : c = 47 ∨ c = 63) (hn : ∀ (j : Nat) (d : UInt8), j < i → l[j]? = some d → d ≠ 47 ∧ d ≠ 63) : Lib.indexAny l [47, 63] = i := by
  induction l generalizing i with
  | nil => simp at h
  | cons b r ih =>
    unfold Lib.indexAny
    cases i with
    | zero =>
      have : b = c := by simpa using h
      rw [this, if_pos (by rcases hc with rfl | rfl <;> rfl)]
      rfl
    | succ i =>
      have hb := hn 0 b (by omega) rfl
      rw [if_neg (by simp [hb.1, hb.2])]
      have := ih (i := i) (by simpa using h) (fun j d hj e => hn (j + 1) d (by omega) (by simpa using e))
      rw [this, if_neg (by simp)]
      omega
theorem ixany_none {l : List UInt8} (hn : ∀ (j : Nat) (d : UInt8), l[j]? = some d → d ≠ 47 ∧ d ≠ 63) : Lib.indexAny l [47, 63] = -1 := by
  induction l with
  | nil => rfl
  | cons b r ih =>
    unfold Lib.indexAny
    have hb := hn 0 b rfl
    rw [if_neg (by simp [hb.1, hb.2]), ih (fun j d e => hn (j + 1) d (by simpa using e))]
    rfl
theorem tail_get {s : ByteArray} {i : Nat} : (s.extract 7 s.size).data.toList[i]? = s.data.toList[7 + i]? := by
  rw [data_ext, List.getElem?_take]
  split
  · rw [List.getElem?_drop]
  · rename_i h
    rw [List.getElem?_eq_none (by rw [toList_len]; omega)]
theorem ext_ext (s : ByteArray) (k : Nat) (h : 7 ≤ k) (hk : k ≤ s.size) : (s.extract 7 s.size).extract 0 (k - 7) = s.extract 7 k ∧ (s.extract 7 s.size).extract (k - 7) (s.extract 7 s.size).size = s.extract k s.size := by
  have e1 : ((s.extract 7 s.size).extract 0 (k - 7)).data.toList = (s.extract 7 k).data.toList := by
    rw [data_ext, data_ext, data_ext]
    simp only [List.drop_zero, Nat.sub_zero, List.take_take]
    congr 1
    omega
  have e2 : ((s.extract 7 s.size).extract (k - 7) (s.extract 7 s.size).size).data.toList = (s.extract k s.size).data.toList := by
    have hz : (s.extract 7 s.size).size = s.size - 7 := by
      rw [← toList_len, data_ext, List.length_take, List.length_drop, toList_len]
      omega
    rw [data_ext, data_ext, data_ext, hz, List.drop_take, List.drop_drop, List.take_take]
    rw [show 7 + (k - 7) = k by omega]
    congr 1
    omega
  exact ⟨by rw [ofList _ _ e1, ← ofList _ _ rfl], by rw [ofList _ _ e2, ← ofList _ _ rfl]⟩
theorem cutI_at (R : ByteArray) (n : Nat) (hn : n < R.size) : cutI R (n : Int) = n := by
  unfold cutI
  rw [if_neg (by omega)]
  rfl
theorem cutI_none (R : ByteArray) : cutI R (-1) = R.size := by
  unfold cutI
  rw [if_pos (by decide)]
/-- What is left behind the loop. -/
def httpE (A B : ByteArray) : List Value × Int := httpG A (rooted B)
set_option maxHeartbeats 8000000 in
set_option maxRecDepth 100000 in
theorem rparse_http (m s : ByteArray) (w : World) (h : s.size ≤ 8192) (k : (m.toList == [67, 79, 78, 78, 69, 67, 84]) = false) (k2 : (s.toList == [42]) = false) (k3 : Lib.hasPrefix s.data.toList [47] = false) (k4 : isHttp s = true) (F : List Value × Int) (hF : httpF (s.extract 7 s.size) (Lib.indexAny (s.extract 7 s.size).data.toList [47, 63]) = F) :
    Calls Tryz.prog 83 #[.string m, .string s] w fun o w' => o = .returned (.tuple #[.agg F.1.toArray, .int .i64 F.2]) ∧ Hid (Chg [] w w') := by
  have h2 : ¬ (8192 : Int) < (s.size : Int) := by omega
  have HTS := Lib.hid (Res.start w zeroT)
  have k4' := k4
  unfold isHttp at k4
  rw [Bool.and_eq_true] at k4
  have h7 := of_decide_eq_true k4.1
  have k5 := k4.2
  rw [lowhttp] at k5
  have h8 : ¬ (s.size : Int) < 7 := by omega
  have h8n : 7 ≤ (s.size : Int) := by omega
  have h0 : 0 < s.size := by omega
  have h0i : (0 : Int) < (s.size : Int) := by omega
  have hq47 := noslash k3 h0
  obtain ⟨x, hx⟩ : ∃ x, s[0]'h0 = x := ⟨_, rfl⟩
  rw [hx] at hq47
  have hsl := fun w => slice_to s 7 w h7
  rw [show ((7 : Nat) : Int) = 7 from rfl] at hsl
  have hlA := ext_size s 0 7
  generalize s.extract 0 7 = A at *
  have HFF := Lib.hid hF
  clear k3 k4 k4' hF
  go_enter Tryz.func83, Tryz.ntmps83
  go_wp2_with fail
  have HW1 := HTS.out
  change Res w (w.alloc (.cells #[.int .i64 0, .string ⟨#[]⟩, .int .i64 0, .string ⟨#[]⟩, .string ⟨#[]⟩, .bool false] 76)) _ _ at HW1
  generalize (w.alloc (.cells #[.int .i64 0, .string ⟨#[]⟩, .int .i64 0, .string ⟨#[]⟩, .string ⟨#[]⟩, .bool false] 76)) = W1 at HW1 ⊢
  generalize w.heap.size = b at HW1 ⊢
  refine (rlower_any A _ (by omega)).mono ?_
  rintro o W4 ⟨rfl, H4⟩
  have HR4 := Lib.hid (HW1.chg H4.out)
  clear HW1
  generalize (⟨(A.data.toList.map lowB).toArray⟩ : ByteArray) = LA at k5 ⊢
  go_wp2
  go_loopw [11] (fun i wr => ∃ k : Nat, 7 ≤ k ∧ k ≤ s.size ∧ i = .int .i64 k ∧ Hid (∀ (j : Nat) (d : UInt8), 7 ≤ j → j < k → s.data.toList[j]? = some d → d ≠ 47 ∧ d ≠ 63) ∧ wr = W4) (fun i _ => s.size - (intOf i).toNat)
  case atStart => exact ⟨7, by omega, by omega, rfl, Lib.hid (fun j d h1 h2 => by omega), rfl⟩
  case round =>
    obtain ⟨k, hk7, hk, rfl, HN, rfl⟩ := hrel
    have HOUT : (k = s.size ∨ ∃ c, s.data.toList[k]? = some c ∧ (c = 47 ∨ c = 63)) → Hid (F = httpE (s.extract 7 k) (s.extract k s.size)) := fun hor => Lib.hid (by
      rw [← HFF.out]
      unfold httpF httpE
      have hcut : cutI (s.extract 7 s.size) (Lib.indexAny (s.extract 7 s.size).data.toList [47, 63]) = k - 7 := by
        rcases hor with rfl | ⟨c, hc, hcc⟩
        · rw [ixany_none (fun j d hj => by
            rw [tail_get] at hj
            exact HN.out (7 + j) d (by omega) (by have := (List.getElem?_eq_some_iff.1 hj).1; rw [toList_len] at this; exact this) hj), cutI_none]
          rw [← toList_len, data_ext, List.length_take, List.length_drop, toList_len]
          omega
        · have hkl := (List.getElem?_eq_some_iff.1 hc).1
          rw [toList_len] at hkl
          rw [ixany_first (i := k - 7) (c := c) (by rw [tail_get, show 7 + (k - 7) = k by omega]; exact hc) hcc (fun j d hj hd => by
            rw [tail_get] at hd
            exact HN.out (7 + j) d (by omega) (by omega) hd), cutI_at]
          rw [← toList_len, data_ext, List.length_take, List.length_drop, toList_len]
          omega
      obtain ⟨e1, e2⟩ := ext_ext s k hk7 hk
      rw [hcut, e1, e2])
    by_cases hlt : k < s.size
    · have hlt2 : (k : Int) < (s.size : Int) := by omega
      have hcl := toList_get s k hlt
      obtain ⟨c, hc⟩ : ∃ c, s[k]'hlt = c := ⟨_, rfl⟩
      rw [hc] at hcl
      by_cases hc47 : c = 47
      · have hq : ((c.toNat : Int) != 47) = false := by rw [hc47]; rfl
        (have HF0 := HOUT (.inr ⟨c, hcl, .inl hc47⟩);
         have q1 := fun w => slice_run s 7 k w (by omega) (by omega);
         rw [show ((7 : Nat) : Int) = 7 from rfl] at q1;
         have q2 := fun w => slice_from s k w (by omega);
         have l1 := ext_size s 7 k;
         have l2 := ext_size s k s.size;
         generalize s.extract 7 k = A2 at *;
         generalize s.extract k s.size = B at *;
         obtain ⟨hh, p, e, hz⟩ : ∃ hh p e, hostF A2 = (hh, p, e) := ⟨_, _, _, rfl⟩;
         have HZ := Lib.hid hz;
         have HF : Hid (F = httpG A2 (rooted B)) := HF0;
         clear hz HF0 HOUT HN HFF;
         try clear hcl;
         try clear hc47;
         try clear hc63;
         try clear hke;
         go_wp2_with fail;
         refine (rHost_any A2 _ (by omega) hh p e HZ.out).mono ?_;
         rintro o W5 ⟨rfl, H5⟩;
         have HR1 := Lib.hid (HR4.out.chg H5.out);
         by_cases k1 : e = 0;
         · (subst k1;
            by_cases hb0 : 0 < B.size;
            · (have hb0i : (0 : Int) < (B.size : Int) := by omega;
               have hbe : B.toList.isEmpty = false := by (rw [Lib.toList_data, List.isEmpty_eq_false_iff]; intro q; rw [← toList_len, q] at hb0; exact absurd hb0 (by decide));
               have hy47 := head47 B hb0;
               obtain ⟨y, hy⟩ : ∃ y, B[0]'hb0 = y := ⟨_, rfl⟩;
               rw [hy] at hy47;
               cases hqq : Lib.hasPrefix B.data.toList [47];
               · (rw [hqq] at hy47;
                  have hyn : ((y.toNat : Int) != 47) = true := by (unfold bne; rw [← hy47]; rfl);
                  clear hy47;
                  (have hrb : rooted B = ⟨#[47]⟩ ++ B := by (unfold rooted; rw [hqq]; rfl);
                   have hrl := rooted_len B;
                   have hcat : ¬ (9223372036854775807 < (⟨#[47]⟩ : ByteArray).size + B.size) := by (show ¬ (9223372036854775807 < 1 + B.size); omega);
                   rw [hrb] at hrl HF;
                   have hrl : (⟨#[47]⟩ ++ B : ByteArray).size ≤ 1048576 := by omega;
                   clear hrb hqq;
                   go_wp2_with fail;
                   generalize (⟨#[47]⟩ ++ B : ByteArray) = r at *;
                   (obtain ⟨z, hzz⟩ : ∃ z, locL (cutP r).data.toList (cutQ r).data.toList = z := ⟨_, rfl⟩;
                    have HZZ := Lib.hid hzz;
                    have HLO := Lib.hid (fun w => rlocal_any 2 p hh r w hrl z hzz);
                    clear hzz;
                    refine (HLO.out _).mono ?_;
                    rintro o W6 ⟨rfl, H6⟩;
                    have HR2 := HR1.out.chg H6.out;
                    have HB := Lib.hid (HR2.both (va := tgt 2 hh p (cutP r) (cutQ r) (cutA r)));
                    clear HR2;
                    unfold tgt;
                    have HR : Res w (W6.alloc (.cells #[.int .i64 2, .string hh, .int .i64 p, .string (cutP r), .string (cutQ r), .bool (cutA r)] 76)) b zeroT := ⟨HB.out.bb, HB.out.ch, HB.out.gb⟩;
                    have HPZ := Lib.hid (HR.put 0 0 ⟨#[]⟩ ⟨#[]⟩ ⟨#[]⟩ false);
                    have HPT := Lib.hid (HR.put 2 p hh (cutP r) (cutQ r) (cutA r));
                    (have c0 := HR.res.cell 0 _ rfl;
                     have c1 := HR.res.cell 1 _ rfl;
                     have c2 := HR.res.cell 2 _ rfl;
                     have c3 := HR.res.cell 3 _ rfl;
                     have c4 := HR.res.cell 4 _ rfl;
                     have c5 := HR.res.cell 5 _ rfl;
                     have f0 := HR.res.free 0;
                     have f1 := HR.res.free 1;
                     have f2 := HR.res.free 2;
                     have f3 := HR.res.free 3;
                     have f4 := HR.res.free 4;
                     have f5 := HR.res.free 5);
                    clear HR;
                    cases z;
                    · (have HQ := Lib.hid (show F = (zeroT, 60) from by rw [HF.out]; unfold httpG; rw [HZ.out, HZZ.out, if_neg (fun h => h rfl), if_neg (by decide)]);
                       go_wp2;
                       refine bodyPost_ret (results10 _ _ b 0 0 ⟨#[]⟩ ⟨#[]⟩ ⟨#[]⟩ false 60 rfl rfl HPZ.out.res) rfl ⟨?_, HPZ.out.ch⟩;
                       rw [HQ.out]; rfl)
                    · (have HQ := Lib.hid (show F = (tgt 2 hh p (cutP r) (cutQ r) (cutA r), 0) from by rw [HF.out]; unfold httpG; rw [HZ.out, HZZ.out, if_neg (fun h => h rfl), if_pos rfl]);
                       go_wp2;
                       refine bodyPost_ret (results10 _ _ b 2 p hh (cutP r) (cutQ r) (cutA r) 0 rfl rfl HPT.out.res) rfl ⟨?_, HPT.out.ch⟩;
                       rw [HQ.out]))))
               · (rw [hqq] at hy47;
                  have hyn : ((y.toNat : Int) != 47) = false := by (unfold bne; rw [← hy47]; rfl);
                  have hrb : rooted B = B := by (unfold rooted; rw [hqq, if_pos rfl]);
                  rw [hrb] at HF;
                  have hrl : B.size ≤ 1048576 := by omega;
                  clear hy47 hrb hqq;
                  go_wp2_with fail;
                  generalize B = r at *;
                  (obtain ⟨z, hzz⟩ : ∃ z, locL (cutP r).data.toList (cutQ r).data.toList = z := ⟨_, rfl⟩;
                   have HZZ := Lib.hid hzz;
                   have HLO := Lib.hid (fun w => rlocal_any 2 p hh r w hrl z hzz);
                   clear hzz;
                   refine (HLO.out _).mono ?_;
                   rintro o W6 ⟨rfl, H6⟩;
                   have HR2 := HR1.out.chg H6.out;
                   have HB := Lib.hid (HR2.both (va := tgt 2 hh p (cutP r) (cutQ r) (cutA r)));
                   clear HR2;
                   unfold tgt;
                   have HR : Res w (W6.alloc (.cells #[.int .i64 2, .string hh, .int .i64 p, .string (cutP r), .string (cutQ r), .bool (cutA r)] 76)) b zeroT := ⟨HB.out.bb, HB.out.ch, HB.out.gb⟩;
                   have HPZ := Lib.hid (HR.put 0 0 ⟨#[]⟩ ⟨#[]⟩ ⟨#[]⟩ false);
                   have HPT := Lib.hid (HR.put 2 p hh (cutP r) (cutQ r) (cutA r));
                   (have c0 := HR.res.cell 0 _ rfl;
                    have c1 := HR.res.cell 1 _ rfl;
                    have c2 := HR.res.cell 2 _ rfl;
                    have c3 := HR.res.cell 3 _ rfl;
                    have c4 := HR.res.cell 4 _ rfl;
                    have c5 := HR.res.cell 5 _ rfl;
                    have f0 := HR.res.free 0;
                    have f1 := HR.res.free 1;
                    have f2 := HR.res.free 2;
                    have f3 := HR.res.free 3;
                    have f4 := HR.res.free 4;
                    have f5 := HR.res.free 5);
                   clear HR;
                   cases z;
                   · (have HQ := Lib.hid (show F = (zeroT, 60) from by rw [HF.out]; unfold httpG; rw [HZ.out, HZZ.out, if_neg (fun h => h rfl), if_neg (by decide)]);
                      go_wp2;
                      refine bodyPost_ret (results10 _ _ b 0 0 ⟨#[]⟩ ⟨#[]⟩ ⟨#[]⟩ false 60 rfl rfl HPZ.out.res) rfl ⟨?_, HPZ.out.ch⟩;
                      rw [HQ.out]; rfl)
                   · (have HQ := Lib.hid (show F = (tgt 2 hh p (cutP r) (cutQ r) (cutA r), 0) from by rw [HF.out]; unfold httpG; rw [HZ.out, HZZ.out, if_neg (fun h => h rfl), if_pos rfl]);
                      go_wp2;
                      refine bodyPost_ret (results10 _ _ b 2 p hh (cutP r) (cutQ r) (cutA r) 0 rfl rfl HPT.out.res) rfl ⟨?_, HPT.out.ch⟩;
                      rw [HQ.out]))))
            · (have hb0i : ¬ (0 : Int) < (B.size : Int) := by omega;
               have hbl : B.data.toList = [] := List.eq_nil_of_length_eq_zero (by rw [toList_len]; omega);
               have hbe : B.toList.isEmpty = true := by (rw [Lib.toList_data, hbl]; rfl);
               have hqq : Lib.hasPrefix B.data.toList [47] = false := by (rw [hbl]; rfl);
               clear hbl;
               (have hrb : rooted B = ⟨#[47]⟩ ++ B := by (unfold rooted; rw [hqq]; rfl);
                have hrl := rooted_len B;
                have hcat : ¬ (9223372036854775807 < (⟨#[47]⟩ : ByteArray).size + B.size) := by (show ¬ (9223372036854775807 < 1 + B.size); omega);
                rw [hrb] at hrl HF;
                have hrl : (⟨#[47]⟩ ++ B : ByteArray).size ≤ 1048576 := by omega;
                clear hrb hqq;
                go_wp2_with fail;
                generalize (⟨#[47]⟩ ++ B : ByteArray) = r at *;
                (obtain ⟨z, hzz⟩ : ∃ z, locL (cutP r).data.toList (cutQ r).data.toList = z := ⟨_, rfl⟩;
                 have HZZ := Lib.hid hzz;
                 have HLO := Lib.hid (fun w => rlocal_any 2 p hh r w hrl z hzz);
                 clear hzz;
                 refine (HLO.out _).mono ?_;
                 rintro o W6 ⟨rfl, H6⟩;
                 have HR2 := HR1.out.chg H6.out;
                 have HB := Lib.hid (HR2.both (va := tgt 2 hh p (cutP r) (cutQ r) (cutA r)));
                 clear HR2;
                 unfold tgt;
                 have HR : Res w (W6.alloc (.cells #[.int .i64 2, .string hh, .int .i64 p, .string (cutP r), .string (cutQ r), .bool (cutA r)] 76)) b zeroT := ⟨HB.out.bb, HB.out.ch, HB.out.gb⟩;
                 have HPZ := Lib.hid (HR.put 0 0 ⟨#[]⟩ ⟨#[]⟩ ⟨#[]⟩ false);
                 have HPT := Lib.hid (HR.put 2 p hh (cutP r) (cutQ r) (cutA r));
                 (have c0 := HR.res.cell 0 _ rfl;
                  have c1 := HR.res.cell 1 _ rfl;
                  have c2 := HR.res.cell 2 _ rfl;
                  have c3 := HR.res.cell 3 _ rfl;
                  have c4 := HR.res.cell 4 _ rfl;
                  have c5 := HR.res.cell 5 _ rfl;
                  have f0 := HR.res.free 0;
                  have f1 := HR.res.free 1;
                  have f2 := HR.res.free 2;
                  have f3 := HR.res.free 3;
                  have f4 := HR.res.free 4;
                  have f5 := HR.res.free 5);
                 clear HR;
                 cases z;
                 · (have HQ := Lib.hid (show F = (zeroT, 60) from by rw [HF.out]; unfold httpG; rw [HZ.out, HZZ.out, if_neg (fun h => h rfl), if_neg (by decide)]);
                    go_wp2;
                    refine bodyPost_ret (results10 _ _ b 0 0 ⟨#[]⟩ ⟨#[]⟩ ⟨#[]⟩ false 60 rfl rfl HPZ.out.res) rfl ⟨?_, HPZ.out.ch⟩;
                    rw [HQ.out]; rfl)
                 · (have HQ := Lib.hid (show F = (tgt 2 hh p (cutP r) (cutQ r) (cutA r), 0) from by rw [HF.out]; unfold httpG; rw [HZ.out, HZZ.out, if_neg (fun h => h rfl), if_pos rfl]);
                    go_wp2;
                    refine bodyPost_ret (results10 _ _ b 2 p hh (cutP r) (cutQ r) (cutA r) 0 rfl rfl HPT.out.res) rfl ⟨?_, HPT.out.ch⟩;
                    rw [HQ.out])))))
         · (have HQ := Lib.hid (show F = (zeroT, e) from by rw [HF.out]; unfold httpG; rw [HZ.out, if_pos k1]);
            have HR := HR1.out;
            have HPZ := Lib.hid (HR.put 0 0 ⟨#[]⟩ ⟨#[]⟩ ⟨#[]⟩ false);
            (have c0 := HR.res.cell 0 _ rfl;
             have c1 := HR.res.cell 1 _ rfl;
             have c2 := HR.res.cell 2 _ rfl;
             have c3 := HR.res.cell 3 _ rfl;
             have c4 := HR.res.cell 4 _ rfl;
             have c5 := HR.res.cell 5 _ rfl;
             have f0 := HR.res.free 0;
             have f1 := HR.res.free 1;
             have f2 := HR.res.free 2;
             have f3 := HR.res.free 3;
             have f4 := HR.res.free 4;
             have f5 := HR.res.free 5);
            have k1b : (e == 0) = false := beq_eq_false_iff_ne.2 k1;
            clear HR;
            go_wp2;
            refine bodyPost_ret (results10 _ _ b 0 0 ⟨#[]⟩ ⟨#[]⟩ ⟨#[]⟩ false e rfl rfl HPZ.out.res) rfl ⟨?_, HPZ.out.ch⟩;
            rw [HQ.out]; rfl))
      · have hq : ((c.toNat : Int) != 47) = true := bne_iff_ne.2 (fun e => hc47 (UInt8.toNat_inj.1 (by have : (47 : UInt8).toNat = 47 := rfl; omega)))
        by_cases hc63 : c = 63
        · have hq6 : ((c.toNat : Int) != 63) = false := by rw [hc63]; rfl
          (have HF0 := HOUT (.inr ⟨c, hcl, .inr hc63⟩);
           have q1 := fun w => slice_run s 7 k w (by omega) (by omega);
           rw [show ((7 : Nat) : Int) = 7 from rfl] at q1;
           have q2 := fun w => slice_from s k w (by omega);
           have l1 := ext_size s 7 k;
           have l2 := ext_size s k s.size;
           generalize s.extract 7 k = A2 at *;
           generalize s.extract k s.size = B at *;
           obtain ⟨hh, p, e, hz⟩ : ∃ hh p e, hostF A2 = (hh, p, e) := ⟨_, _, _, rfl⟩;
           have HZ := Lib.hid hz;
           have HF : Hid (F = httpG A2 (rooted B)) := HF0;
           clear hz HF0 HOUT HN HFF;
           try clear hcl;
           try clear hc47;
           try clear hc63;
           try clear hke;
           go_wp2_with fail;
           refine (rHost_any A2 _ (by omega) hh p e HZ.out).mono ?_;
           rintro o W5 ⟨rfl, H5⟩;
           have HR1 := Lib.hid (HR4.out.chg H5.out);
           by_cases k1 : e = 0;
           · (subst k1;
              by_cases hb0 : 0 < B.size;
              · (have hb0i : (0 : Int) < (B.size : Int) := by omega;
                 have hbe : B.toList.isEmpty = false := by (rw [Lib.toList_data, List.isEmpty_eq_false_iff]; intro q; rw [← toList_len, q] at hb0; exact absurd hb0 (by decide));
                 have hy47 := head47 B hb0;
                 obtain ⟨y, hy⟩ : ∃ y, B[0]'hb0 = y := ⟨_, rfl⟩;
                 rw [hy] at hy47;
                 cases hqq : Lib.hasPrefix B.data.toList [47];
                 · (rw [hqq] at hy47;
                    have hyn : ((y.toNat : Int) != 47) = true := by (unfold bne; rw [← hy47]; rfl);
                    clear hy47;
                    (have hrb : rooted B = ⟨#[47]⟩ ++ B := by (unfold rooted; rw [hqq]; rfl);
                     have hrl := rooted_len B;
                     have hcat : ¬ (9223372036854775807 < (⟨#[47]⟩ : ByteArray).size + B.size) := by (show ¬ (9223372036854775807 < 1 + B.size); omega);
                     rw [hrb] at hrl HF;
                     have hrl : (⟨#[47]⟩ ++ B : ByteArray).size ≤ 1048576 := by omega;
                     clear hrb hqq;
                     go_wp2_with fail;
                     generalize (⟨#[47]⟩ ++ B : ByteArray) = r at *;
                     (obtain ⟨z, hzz⟩ : ∃ z, locL (cutP r).data.toList (cutQ r).data.toList = z := ⟨_, rfl⟩;
                      have HZZ := Lib.hid hzz;
                      have HLO := Lib.hid (fun w => rlocal_any 2 p hh r w hrl z hzz);
                      clear hzz;
                      refine (HLO.out _).mono ?_;
                      rintro o W6 ⟨rfl, H6⟩;
                      have HR2 := HR1.out.chg H6.out;
                      have HB := Lib.hid (HR2.both (va := tgt 2 hh p (cutP r) (cutQ r) (cutA r)));
                      clear HR2;
                      unfold tgt;
                      have HR : Res w (W6.alloc (.cells #[.int .i64 2, .string hh, .int .i64 p, .string (cutP r), .string (cutQ r), .bool (cutA r)] 76)) b zeroT := ⟨HB.out.bb, HB.out.ch, HB.out.gb⟩;
                      have HPZ := Lib.hid (HR.put 0 0 ⟨#[]⟩ ⟨#[]⟩ ⟨#[]⟩ false);
                      have HPT := Lib.hid (HR.put 2 p hh (cutP r) (cutQ r) (cutA r));
                      (have c0 := HR.res.cell 0 _ rfl;
                       have c1 := HR.res.cell 1 _ rfl;
                       have c2 := HR.res.cell 2 _ rfl;
                       have c3 := HR.res.cell 3 _ rfl;
                       have c4 := HR.res.cell 4 _ rfl;
                       have c5 := HR.res.cell 5 _ rfl;
                       have f0 := HR.res.free 0;
                       have f1 := HR.res.free 1;
                       have f2 := HR.res.free 2;
                       have f3 := HR.res.free 3;
                       have f4 := HR.res.free 4;
                       have f5 := HR.res.free 5);
                      clear HR;
                      cases z;
                      · (have HQ := Lib.hid (show F = (zeroT, 60) from by rw [HF.out]; unfold httpG; rw [HZ.out, HZZ.out, if_neg (fun h => h rfl), if_neg (by decide)]);
                         go_wp2;
                         refine bodyPost_ret (results10 _ _ b 0 0 ⟨#[]⟩ ⟨#[]⟩ ⟨#[]⟩ false 60 rfl rfl HPZ.out.res) rfl ⟨?_, HPZ.out.ch⟩;
                         rw [HQ.out]; rfl)
                      · (have HQ := Lib.hid (show F = (tgt 2 hh p (cutP r) (cutQ r) (cutA r), 0) from by rw [HF.out]; unfold httpG; rw [HZ.out, HZZ.out, if_neg (fun h => h rfl), if_pos rfl]);
                         go_wp2;
                         refine bodyPost_ret (results10 _ _ b 2 p hh (cutP r) (cutQ r) (cutA r) 0 rfl rfl HPT.out.res) rfl ⟨?_, HPT.out.ch⟩;
                         rw [HQ.out]))))
                 · (rw [hqq] at hy47;
                    have hyn : ((y.toNat : Int) != 47) = false := by (unfold bne; rw [← hy47]; rfl);
                    have hrb : rooted B = B := by (unfold rooted; rw [hqq, if_pos rfl]);
                    rw [hrb] at HF;
                    have hrl : B.size ≤ 1048576 := by omega;
                    clear hy47 hrb hqq;
                    go_wp2_with fail;
                    generalize B = r at *;
                    (obtain ⟨z, hzz⟩ : ∃ z, locL (cutP r).data.toList (cutQ r).data.toList = z := ⟨_, rfl⟩;
                     have HZZ := Lib.hid hzz;
                     have HLO := Lib.hid (fun w => rlocal_any 2 p hh r w hrl z hzz);
                     clear hzz;
                     refine (HLO.out _).mono ?_;
                     rintro o W6 ⟨rfl, H6⟩;
                     have HR2 := HR1.out.chg H6.out;
                     have HB := Lib.hid (HR2.both (va := tgt 2 hh p (cutP r) (cutQ r) (cutA r)));
                     clear HR2;
                     unfold tgt;
                     have HR : Res w (W6.alloc (.cells #[.int .i64 2, .string hh, .int .i64 p, .string (cutP r), .string (cutQ r), .bool (cutA r)] 76)) b zeroT := ⟨HB.out.bb, HB.out.ch, HB.out.gb⟩;
                     have HPZ := Lib.hid (HR.put 0 0 ⟨#[]⟩ ⟨#[]⟩ ⟨#[]⟩ false);
                     have HPT := Lib.hid (HR.put 2 p hh (cutP r) (cutQ r) (cutA r));
                     (have c0 := HR.res.cell 0 _ rfl;
                      have c1 := HR.res.cell 1 _ rfl;
                      have c2 := HR.res.cell 2 _ rfl;
                      have c3 := HR.res.cell 3 _ rfl;
                      have c4 := HR.res.cell 4 _ rfl;
                      have c5 := HR.res.cell 5 _ rfl;
                      have f0 := HR.res.free 0;
                      have f1 := HR.res.free 1;
                      have f2 := HR.res.free 2;
                      have f3 := HR.res.free 3;
                      have f4 := HR.res.free 4;
                      have f5 := HR.res.free 5);
                     clear HR;
                     cases z;
                     · (have HQ := Lib.hid (show F = (zeroT, 60) from by rw [HF.out]; unfold httpG; rw [HZ.out, HZZ.out, if_neg (fun h => h rfl), if_neg (by decide)]);
                        go_wp2;
                        refine bodyPost_ret (results10 _ _ b 0 0 ⟨#[]⟩ ⟨#[]⟩ ⟨#[]⟩ false 60 rfl rfl HPZ.out.res) rfl ⟨?_, HPZ.out.ch⟩;
                        rw [HQ.out]; rfl)
                     · (have HQ := Lib.hid (show F = (tgt 2 hh p (cutP r) (cutQ r) (cutA r), 0) from by rw [HF.out]; unfold httpG; rw [HZ.out, HZZ.out, if_neg (fun h => h rfl), if_pos rfl]);
                        go_wp2;
                        refine bodyPost_ret (results10 _ _ b 2 p hh (cutP r) (cutQ r) (cutA r) 0 rfl rfl HPT.out.res) rfl ⟨?_, HPT.out.ch⟩;
                        rw [HQ.out]))))
              · (have hb0i : ¬ (0 : Int) < (B.size : Int) := by omega;
                 have hbl : B.data.toList = [] := List.eq_nil_of_length_eq_zero (by rw [toList_len]; omega);
                 have hbe : B.toList.isEmpty = true := by (rw [Lib.toList_data, hbl]; rfl);
                 have hqq : Lib.hasPrefix B.data.toList [47] = false := by (rw [hbl]; rfl);
                 clear hbl;
                 (have hrb : rooted B = ⟨#[47]⟩ ++ B := by (unfold rooted; rw [hqq]; rfl);
                  have hrl := rooted_len B;
                  have hcat : ¬ (9223372036854775807 < (⟨#[47]⟩ : ByteArray).size + B.size) := by (show ¬ (9223372036854775807 < 1 + B.size); omega);
                  rw [hrb] at hrl HF;
                  have hrl : (⟨#[47]⟩ ++ B : ByteArray).size ≤ 1048576 := by omega;
                  clear hrb hqq;
                  go_wp2_with fail;
                  generalize (⟨#[47]⟩ ++ B : ByteArray) = r at *;
                  (obtain ⟨z, hzz⟩ : ∃ z, locL (cutP r).data.toList (cutQ r).data.toList = z := ⟨_, rfl⟩;
                   have HZZ := Lib.hid hzz;
                   have HLO := Lib.hid (fun w => rlocal_any 2 p hh r w hrl z hzz);
                   clear hzz;
                   refine (HLO.out _).mono ?_;
                   rintro o W6 ⟨rfl, H6⟩;
                   have HR2 := HR1.out.chg H6.out;
                   have HB := Lib.hid (HR2.both (va := tgt 2 hh p (cutP r) (cutQ r) (cutA r)));
                   clear HR2;
                   unfold tgt;
                   have HR : Res w (W6.alloc (.cells #[.int .i64 2, .string hh, .int .i64 p, .string (cutP r), .string (cutQ r), .bool (cutA r)] 76)) b zeroT := ⟨HB.out.bb, HB.out.ch, HB.out.gb⟩;
                   have HPZ := Lib.hid (HR.put 0 0 ⟨#[]⟩ ⟨#[]⟩ ⟨#[]⟩ false);
                   have HPT := Lib.hid (HR.put 2 p hh (cutP r) (cutQ r) (cutA r));
                   (have c0 := HR.res.cell 0 _ rfl;
                    have c1 := HR.res.cell 1 _ rfl;
                    have c2 := HR.res.cell 2 _ rfl;
                    have c3 := HR.res.cell 3 _ rfl;
                    have c4 := HR.res.cell 4 _ rfl;
                    have c5 := HR.res.cell 5 _ rfl;
                    have f0 := HR.res.free 0;
                    have f1 := HR.res.free 1;
                    have f2 := HR.res.free 2;
                    have f3 := HR.res.free 3;
                    have f4 := HR.res.free 4;
                    have f5 := HR.res.free 5);
                   clear HR;
                   cases z;
                   · (have HQ := Lib.hid (show F = (zeroT, 60) from by rw [HF.out]; unfold httpG; rw [HZ.out, HZZ.out, if_neg (fun h => h rfl), if_neg (by decide)]);
                      go_wp2;
                      refine bodyPost_ret (results10 _ _ b 0 0 ⟨#[]⟩ ⟨#[]⟩ ⟨#[]⟩ false 60 rfl rfl HPZ.out.res) rfl ⟨?_, HPZ.out.ch⟩;
                      rw [HQ.out]; rfl)
                   · (have HQ := Lib.hid (show F = (tgt 2 hh p (cutP r) (cutQ r) (cutA r), 0) from by rw [HF.out]; unfold httpG; rw [HZ.out, HZZ.out, if_neg (fun h => h rfl), if_pos rfl]);
                      go_wp2;
                      refine bodyPost_ret (results10 _ _ b 2 p hh (cutP r) (cutQ r) (cutA r) 0 rfl rfl HPT.out.res) rfl ⟨?_, HPT.out.ch⟩;
                      rw [HQ.out])))))
           · (have HQ := Lib.hid (show F = (zeroT, e) from by rw [HF.out]; unfold httpG; rw [HZ.out, if_pos k1]);
              have HR := HR1.out;
              have HPZ := Lib.hid (HR.put 0 0 ⟨#[]⟩ ⟨#[]⟩ ⟨#[]⟩ false);
              (have c0 := HR.res.cell 0 _ rfl;
               have c1 := HR.res.cell 1 _ rfl;
               have c2 := HR.res.cell 2 _ rfl;
               have c3 := HR.res.cell 3 _ rfl;
               have c4 := HR.res.cell 4 _ rfl;
               have c5 := HR.res.cell 5 _ rfl;
               have f0 := HR.res.free 0;
               have f1 := HR.res.free 1;
               have f2 := HR.res.free 2;
               have f3 := HR.res.free 3;
               have f4 := HR.res.free 4;
               have f5 := HR.res.free 5);
              have k1b : (e == 0) = false := beq_eq_false_iff_ne.2 k1;
              clear HR;
              go_wp2;
              refine bodyPost_ret (results10 _ _ b 0 0 ⟨#[]⟩ ⟨#[]⟩ ⟨#[]⟩ false e rfl rfl HPZ.out.res) rfl ⟨?_, HPZ.out.ch⟩;
              rw [HQ.out]; rfl))
        · have hq6 : ((c.toNat : Int) != 63) = true := bne_iff_ne.2 (fun e => hc63 (UInt8.toNat_inj.1 (by have : (63 : UInt8).toNat = 63 := rfl; omega)))
          have HN2 := Lib.hid (show ∀ (j : Nat) (d : UInt8), 7 ≤ j → j < k + 1 → s.data.toList[j]? = some d → d ≠ 47 ∧ d ≠ 63 from fun j d h1 hj hd => by
            rcases Nat.lt_or_ge j k with q | q
            · exact HN.out j d h1 q hd
            · obtain rfl : j = k := by omega
              rw [hcl] at hd
              injection hd with hd
              rw [← hd]
              exact ⟨hc47, hc63⟩)
          clear hcl hc47 hc63 HN HOUT
          go_wp2
          go_roundw
          case rel => exact ⟨k + 1, by omega, by omega, by go_num, HN2, by first | rfl | trivial⟩
          case measure => simp [intOf]; omega
    · have hke : k = s.size := by omega
      have hlt2 : ¬ (k : Int) < (s.size : Int) := by omega
      (have HF0 := HOUT (.inl hke);
       have q1 := fun w => slice_run s 7 k w (by omega) (by omega);
       rw [show ((7 : Nat) : Int) = 7 from rfl] at q1;
       have q2 := fun w => slice_from s k w (by omega);
       have l1 := ext_size s 7 k;
       have l2 := ext_size s k s.size;
       generalize s.extract 7 k = A2 at *;
       generalize s.extract k s.size = B at *;
       obtain ⟨hh, p, e, hz⟩ : ∃ hh p e, hostF A2 = (hh, p, e) := ⟨_, _, _, rfl⟩;
       have HZ := Lib.hid hz;
       have HF : Hid (F = httpG A2 (rooted B)) := HF0;
       clear hz HF0 HOUT HN HFF;
       try clear hcl;
       try clear hc47;
       try clear hc63;
       try clear hke;
       go_wp2_with fail;
       refine (rHost_any A2 _ (by omega) hh p e HZ.out).mono ?_;
       rintro o W5 ⟨rfl, H5⟩;
       have HR1 := Lib.hid (HR4.out.chg H5.out);
       by_cases k1 : e = 0;
       · (subst k1;
          by_cases hb0 : 0 < B.size;
          · (have hb0i : (0 : Int) < (B.size : Int) := by omega;
             have hbe : B.toList.isEmpty = false := by (rw [Lib.toList_data, List.isEmpty_eq_false_iff]; intro q; rw [← toList_len, q] at hb0; exact absurd hb0 (by decide));
             have hy47 := head47 B hb0;
             obtain ⟨y, hy⟩ : ∃ y, B[0]'hb0 = y := ⟨_, rfl⟩;
             rw [hy] at hy47;
             cases hqq : Lib.hasPrefix B.data.toList [47];
             · (rw [hqq] at hy47;
                have hyn : ((y.toNat : Int) != 47) = true := by (unfold bne; rw [← hy47]; rfl);
                clear hy47;
                (have hrb : rooted B = ⟨#[47]⟩ ++ B := by (unfold rooted; rw [hqq]; rfl);
                 have hrl := rooted_len B;
                 have hcat : ¬ (9223372036854775807 < (⟨#[47]⟩ : ByteArray).size + B.size) := by (show ¬ (9223372036854775807 < 1 + B.size); omega);
                 rw [hrb] at hrl HF;
                 have hrl : (⟨#[47]⟩ ++ B : ByteArray).size ≤ 1048576 := by omega;
                 clear hrb hqq;
                 go_wp2_with fail;
                 generalize (⟨#[47]⟩ ++ B : ByteArray) = r at *;
                 (obtain ⟨z, hzz⟩ : ∃ z, locL (cutP r).data.toList (cutQ r).data.toList = z := ⟨_, rfl⟩;
                  have HZZ := Lib.hid hzz;
                  have HLO := Lib.hid (fun w => rlocal_any 2 p hh r w hrl z hzz);
                  clear hzz;
                  refine (HLO.out _).mono ?_;
                  rintro o W6 ⟨rfl, H6⟩;
                  have HR2 := HR1.out.chg H6.out;
                  have HB := Lib.hid (HR2.both (va := tgt 2 hh p (cutP r) (cutQ r) (cutA r)));
                  clear HR2;
                  unfold tgt;
                  have HR : Res w (W6.alloc (.cells #[.int .i64 2, .string hh, .int .i64 p, .string (cutP r), .string (cutQ r), .bool (cutA r)] 76)) b zeroT := ⟨HB.out.bb, HB.out.ch, HB.out.gb⟩;
                  have HPZ := Lib.hid (HR.put 0 0 ⟨#[]⟩ ⟨#[]⟩ ⟨#[]⟩ false);
                  have HPT := Lib.hid (HR.put 2 p hh (cutP r) (cutQ r) (cutA r));
                  (have c0 := HR.res.cell 0 _ rfl;
                   have c1 := HR.res.cell 1 _ rfl;
                   have c2 := HR.res.cell 2 _ rfl;
                   have c3 := HR.res.cell 3 _ rfl;
                   have c4 := HR.res.cell 4 _ rfl;
                   have c5 := HR.res.cell 5 _ rfl;
                   have f0 := HR.res.free 0;
                   have f1 := HR.res.free 1;
                   have f2 := HR.res.free 2;
                   have f3 := HR.res.free 3;
                   have f4 := HR.res.free 4;
                   have f5 := HR.res.free 5);
                  clear HR;
                  cases z;
                  · (have HQ := Lib.hid (show F = (zeroT, 60) from by rw [HF.out]; unfold httpG; rw [HZ.out, HZZ.out, if_neg (fun h => h rfl), if_neg (by decide)]);
                     go_wp2;
                     refine bodyPost_ret (results10 _ _ b 0 0 ⟨#[]⟩ ⟨#[]⟩ ⟨#[]⟩ false 60 rfl rfl HPZ.out.res) rfl ⟨?_, HPZ.out.ch⟩;
                     rw [HQ.out]; rfl)
                  · (have HQ := Lib.hid (show F = (tgt 2 hh p (cutP r) (cutQ r) (cutA r), 0) from by rw [HF.out]; unfold httpG; rw [HZ.out, HZZ.out, if_neg (fun h => h rfl), if_pos rfl]);
                     go_wp2;
                     refine bodyPost_ret (results10 _ _ b 2 p hh (cutP r) (cutQ r) (cutA r) 0 rfl rfl HPT.out.res) rfl ⟨?_, HPT.out.ch⟩;
                     rw [HQ.out]))))
             · (rw [hqq] at hy47;
                have hyn : ((y.toNat : Int) != 47) = false := by (unfold bne; rw [← hy47]; rfl);
                have hrb : rooted B = B := by (unfold rooted; rw [hqq, if_pos rfl]);
                rw [hrb] at HF;
                have hrl : B.size ≤ 1048576 := by omega;
                clear hy47 hrb hqq;
                go_wp2_with fail;
                generalize B = r at *;
                (obtain ⟨z, hzz⟩ : ∃ z, locL (cutP r).data.toList (cutQ r).data.toList = z := ⟨_, rfl⟩;
                 have HZZ := Lib.hid hzz;
                 have HLO := Lib.hid (fun w => rlocal_any 2 p hh r w hrl z hzz);
                 clear hzz;
                 refine (HLO.out _).mono ?_;
                 rintro o W6 ⟨rfl, H6⟩;
                 have HR2 := HR1.out.chg H6.out;
                 have HB := Lib.hid (HR2.both (va := tgt 2 hh p (cutP r) (cutQ r) (cutA r)));
                 clear HR2;
                 unfold tgt;
                 have HR : Res w (W6.alloc (.cells #[.int .i64 2, .string hh, .int .i64 p, .string (cutP r), .string (cutQ r), .bool (cutA r)] 76)) b zeroT := ⟨HB.out.bb, HB.out.ch, HB.out.gb⟩;
                 have HPZ := Lib.hid (HR.put 0 0 ⟨#[]⟩ ⟨#[]⟩ ⟨#[]⟩ false);
                 have HPT := Lib.hid (HR.put 2 p hh (cutP r) (cutQ r) (cutA r));
                 (have c0 := HR.res.cell 0 _ rfl;
                  have c1 := HR.res.cell 1 _ rfl;
                  have c2 := HR.res.cell 2 _ rfl;
                  have c3 := HR.res.cell 3 _ rfl;
                  have c4 := HR.res.cell 4 _ rfl;
                  have c5 := HR.res.cell 5 _ rfl;
                  have f0 := HR.res.free 0;
                  have f1 := HR.res.free 1;
                  have f2 := HR.res.free 2;
                  have f3 := HR.res.free 3;
                  have f4 := HR.res.free 4;
                  have f5 := HR.res.free 5);
                 clear HR;
                 cases z;
                 · (have HQ := Lib.hid (show F = (zeroT, 60) from by rw [HF.out]; unfold httpG; rw [HZ.out, HZZ.out, if_neg (fun h => h rfl), if_neg (by decide)]);
                    go_wp2;
                    refine bodyPost_ret (results10 _ _ b 0 0 ⟨#[]⟩ ⟨#[]⟩ ⟨#[]⟩ false 60 rfl rfl HPZ.out.res) rfl ⟨?_, HPZ.out.ch⟩;
                    rw [HQ.out]; rfl)
                 · (have HQ := Lib.hid (show F = (tgt 2 hh p (cutP r) (cutQ r) (cutA r), 0) from by rw [HF.out]; unfold httpG; rw [HZ.out, HZZ.out, if_neg (fun h => h rfl), if_pos rfl]);
                    go_wp2;
                    refine bodyPost_ret (results10 _ _ b 2 p hh (cutP r) (cutQ r) (cutA r) 0 rfl rfl HPT.out.res) rfl ⟨?_, HPT.out.ch⟩;
                    rw [HQ.out]))))
          · (have hb0i : ¬ (0 : Int) < (B.size : Int) := by omega;
             have hbl : B.data.toList = [] := List.eq_nil_of_length_eq_zero (by rw [toList_len]; omega);
             have hbe : B.toList.isEmpty = true := by (rw [Lib.toList_data, hbl]; rfl);
             have hqq : Lib.hasPrefix B.data.toList [47] = false := by (rw [hbl]; rfl);
             clear hbl;
             (have hrb : rooted B = ⟨#[47]⟩ ++ B := by (unfold rooted; rw [hqq]; rfl);
              have hrl := rooted_len B;
              have hcat : ¬ (9223372036854775807 < (⟨#[47]⟩ : ByteArray).size + B.size) := by (show ¬ (9223372036854775807 < 1 + B.size); omega);
              rw [hrb] at hrl HF;
              have hrl : (⟨#[47]⟩ ++ B : ByteArray).size ≤ 1048576 := by omega;
              clear hrb hqq;
              go_wp2_with fail;
              generalize (⟨#[47]⟩ ++ B : ByteArray) = r at *;
              (obtain ⟨z, hzz⟩ : ∃ z, locL (cutP r).data.toList (cutQ r).data.toList = z := ⟨_, rfl⟩;
               have HZZ := Lib.hid hzz;
               have HLO := Lib.hid (fun w => rlocal_any 2 p hh r w hrl z hzz);
               clear hzz;
               refine (HLO.out _).mono ?_;
               rintro o W6 ⟨rfl, H6⟩;
               have HR2 := HR1.out.chg H6.out;
               have HB := Lib.hid (HR2.both (va := tgt 2 hh p (cutP r) (cutQ r) (cutA r)));
               clear HR2;
               unfold tgt;
               have HR : Res w (W6.alloc (.cells #[.int .i64 2, .string hh, .int .i64 p, .string (cutP r), .string (cutQ r), .bool (cutA r)] 76)) b zeroT := ⟨HB.out.bb, HB.out.ch, HB.out.gb⟩;
               have HPZ := Lib.hid (HR.put 0 0 ⟨#[]⟩ ⟨#[]⟩ ⟨#[]⟩ false);
               have HPT := Lib.hid (HR.put 2 p hh (cutP r) (cutQ r) (cutA r));
               (have c0 := HR.res.cell 0 _ rfl;
                have c1 := HR.res.cell 1 _ rfl;
                have c2 := HR.res.cell 2 _ rfl;
                have c3 := HR.res.cell 3 _ rfl;
                have c4 := HR.res.cell 4 _ rfl;
                have c5 := HR.res.cell 5 _ rfl;
                have f0 := HR.res.free 0;
                have f1 := HR.res.free 1;
                have f2 := HR.res.free 2;
                have f3 := HR.res.free 3;
                have f4 := HR.res.free 4;
                have f5 := HR.res.free 5);
               clear HR;
               cases z;
               · (have HQ := Lib.hid (show F = (zeroT, 60) from by rw [HF.out]; unfold httpG; rw [HZ.out, HZZ.out, if_neg (fun h => h rfl), if_neg (by decide)]);
                  go_wp2;
                  refine bodyPost_ret (results10 _ _ b 0 0 ⟨#[]⟩ ⟨#[]⟩ ⟨#[]⟩ false 60 rfl rfl HPZ.out.res) rfl ⟨?_, HPZ.out.ch⟩;
                  rw [HQ.out]; rfl)
               · (have HQ := Lib.hid (show F = (tgt 2 hh p (cutP r) (cutQ r) (cutA r), 0) from by rw [HF.out]; unfold httpG; rw [HZ.out, HZZ.out, if_neg (fun h => h rfl), if_pos rfl]);
                  go_wp2;
                  refine bodyPost_ret (results10 _ _ b 2 p hh (cutP r) (cutQ r) (cutA r) 0 rfl rfl HPT.out.res) rfl ⟨?_, HPT.out.ch⟩;
                  rw [HQ.out])))))
       · (have HQ := Lib.hid (show F = (zeroT, e) from by rw [HF.out]; unfold httpG; rw [HZ.out, if_pos k1]);
          have HR := HR1.out;
          have HPZ := Lib.hid (HR.put 0 0 ⟨#[]⟩ ⟨#[]⟩ ⟨#[]⟩ false);
          (have c0 := HR.res.cell 0 _ rfl;
           have c1 := HR.res.cell 1 _ rfl;
           have c2 := HR.res.cell 2 _ rfl;
           have c3 := HR.res.cell 3 _ rfl;
           have c4 := HR.res.cell 4 _ rfl;
           have c5 := HR.res.cell 5 _ rfl;
           have f0 := HR.res.free 0;
           have f1 := HR.res.free 1;
           have f2 := HR.res.free 2;
           have f3 := HR.res.free 3;
           have f4 := HR.res.free 4;
           have f5 := HR.res.free 5);
          have k1b : (e == 0) = false := beq_eq_false_iff_ne.2 k1;
          clear HR;
          go_wp2;
          refine bodyPost_ret (results10 _ _ b 0 0 ⟨#[]⟩ ⟨#[]⟩ ⟨#[]⟩ false e rfl rfl HPZ.out.res) rfl ⟨?_, HPZ.out.ch⟩;
          rw [HQ.out]; rfl))
end Go.Proofs.YtjndgkbikhndoaaGreatDoor
