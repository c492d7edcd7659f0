/- Layer 6, the reference: Parse, a path, and what is none of all. -/
import Derived.Test.YtjndgkbikhndoaaGreatDoorU8
namespace Go.Proofs.YtjndgkbikhndoaaGreatDoor
open Go.RowKit Go.ChangeShapes Go.WideShapes
set_option linter.unusedVariables false

/-- Behind a local whose block is new: both blocks. -/
theorem Res.both {w W : World} {b : Nat} {vs va : List Value} (h : Res w W b vs) : Prs w (W.alloc (.cells va.toArray 76)) W.heap.size b va vs :=
  ⟨Blk.new W va 76, h.res.alloc _, h.ch.alloc _, h.ch.size, h.ge, by have := h.res.lt; omega⟩
set_option maxHeartbeats 4000000 in
set_option maxRecDepth 100000 in
theorem rparse_slash (m s : ByteArray) (w : World) (h : s.size ≤ 8192) (k : (m.toList == [67, 79, 78, 78, 69, 67, 84]) = false) (k2 : (s.toList == [42]) = false) (k3 : Lib.hasPrefix s.data.toList [47] = true) :
    Calls Tryz.prog 83 #[.string m, .string s] w fun o w' => o = .returned (.tuple #[.agg (slashF s).1.toArray, .int .i64 (slashF s).2]) ∧ Hid (Chg [] w w') := by
  have h2 : ¬ (8192 : Int) < (s.size : Int) := by omega
  have h0 : 0 < s.size := by
    rcases Nat.eq_zero_or_pos s.size with q | q
    · have hl : s.data.toList = [] := List.eq_nil_of_length_eq_zero (by rw [toList_len]; exact q)
      rw [hl] at k3
      exact absurd k3 (by decide)
    · exact q
  have h0i : (0 : Int) < (s.size : Int) := by omega
  have hh := head47 s h0
  rw [k3] at hh
  have hno := slash_http k3
  have HTS := Lib.hid (Res.start w zeroT)
  obtain ⟨z, hz⟩ : ∃ z, locL (cutP s).data.toList (cutQ s).data.toList = z := ⟨_, rfl⟩
  have HL := Lib.hid (fun w => rlocal_any 1 (-1) ⟨#[]⟩ s w (by omega) z hz)
  have HZ := Lib.hid hz
  have hlw := Lib.hid (fun w => rlower_any (s.extract 0 7) w (by have := ext_size s 0 7; omega))
  unfold isHttp at hno
  have hs7 := fun (hq : 7 ≤ s.size) w => slice_to s 7 w hq
  rw [show ((7 : Nat) : Int) = 7 from rfl] at hs7
  generalize s.extract 0 7 = A at *
  have HNO := Lib.hid hno
  clear hz k3 hno
  obtain ⟨x, hx⟩ : ∃ x, s[0]'h0 = x := ⟨_, rfl⟩
  rw [hx] at hh
  have hq47 := hh.symm
  clear hh
  go_enter Tryz.func83, Tryz.ntmps83
  go_wp2_with fail
  have HW1 := HTS.out
  change Res w (w.alloc (.cells #[.int .i64 0, .string ⟨#[]⟩, .int .i64 0, .string ⟨#[]⟩, .string ⟨#[]⟩, .bool false] 76)) _ _ at HW1
  generalize (w.alloc (.cells #[.int .i64 0, .string ⟨#[]⟩, .int .i64 0, .string ⟨#[]⟩, .string ⟨#[]⟩, .bool false] 76)) = W1 at HW1 ⊢
  generalize w.heap.size = b at HW1 ⊢
  refine (HL.out _).mono ?_
  rintro o W2 ⟨rfl, H2⟩
  have HR2 := HW1.chg H2.out
  have HB := Lib.hid (HR2.both (va := tgt 1 ⟨#[]⟩ (-1) (cutP s) (cutQ s) (cutA s)))
  clear HW1 HR2
  unfold tgt
  have HR : Res w (W2.alloc (.cells #[.int .i64 1, .string ⟨#[]⟩, .int .i64 (-1), .string (cutP s), .string (cutQ s), .bool (cutA s)] 76)) b zeroT := ⟨HB.out.bb, HB.out.ch, HB.out.gb⟩
  cases z
  · have HQ : Hid (slashF s = (zeroT, 60)) := Lib.hid (by unfold slashF; rw [HZ.out, if_neg (by decide)])
    by_cases h7 : 7 ≤ s.size
    · have h8 : ¬ (s.size : Int) < 7 := by omega
      have hsl := hs7 h7
      have hno := HNO.out
      rw [decide_eq_true h7, Bool.true_and] at hno
      have hne : ((⟨(A.data.toList.map lowB).toArray⟩ : ByteArray).toList == [104, 116, 116, 112, 58, 47, 47]) = false := by
        rw [beq_eq_false_iff_ne]
        intro e
        refine (of_decide_eq_false hno) ?_
        show (low A).toList = _
        rw [show (low A).toList = (⟨(A.data.toList.map lowB).toArray⟩ : ByteArray).toList from rfl, e]
        rw [Lib.toList_data]
        rfl
      clear hno hs7
      go_wp2_with fail
      refine (hlw.out _).mono ?_
      rintro o W4 ⟨rfl, H4⟩
      have HR4 := HR.chg H4.out
      clear HR
      have HR := HR4
      have HPZ := Lib.hid (HR.put 0 0 ⟨#[]⟩ ⟨#[]⟩ ⟨#[]⟩ false)
      (have c0 := HR.res.cell 0 _ rfl;
       have c1 := HR.res.cell 1 _ rfl;
       have c2 := HR.res.cell 2 _ rfl;
       have c3 := HR.res.cell 3 _ rfl;
       have c4 := HR.res.cell 4 _ rfl;
       have c5 := HR.res.cell 5 _ rfl;
       have f0 := HR.res.free 0;
       have f1 := HR.res.free 1;
       have f2 := HR.res.free 2;
       have f3 := HR.res.free 3;
       have f4 := HR.res.free 4;
       have f5 := HR.res.free 5)
      clear HR HR4
      generalize (⟨(A.data.toList.map lowB).toArray⟩ : ByteArray) = LA at hne ⊢
      go_wp2
      rw [HQ.out]
      exact bodyPost_ret (results10 _ _ b 0 0 ⟨#[]⟩ ⟨#[]⟩ ⟨#[]⟩ false 60 rfl rfl HPZ.out.res) rfl ⟨rfl, HPZ.out.ch⟩
    · have h8 : (s.size : Int) < 7 := by omega
      have HPZ := Lib.hid (HR.put 0 0 ⟨#[]⟩ ⟨#[]⟩ ⟨#[]⟩ false)
      (have c0 := HR.res.cell 0 _ rfl;
       have c1 := HR.res.cell 1 _ rfl;
       have c2 := HR.res.cell 2 _ rfl;
       have c3 := HR.res.cell 3 _ rfl;
       have c4 := HR.res.cell 4 _ rfl;
       have c5 := HR.res.cell 5 _ rfl;
       have f0 := HR.res.free 0;
       have f1 := HR.res.free 1;
       have f2 := HR.res.free 2;
       have f3 := HR.res.free 3;
       have f4 := HR.res.free 4;
       have f5 := HR.res.free 5)
      clear HR hs7
      go_wp2
      rw [HQ.out]
      exact bodyPost_ret (results10 _ _ b 0 0 ⟨#[]⟩ ⟨#[]⟩ ⟨#[]⟩ false 60 rfl rfl HPZ.out.res) rfl ⟨rfl, HPZ.out.ch⟩
  · have HQ : Hid (slashF s = (tgt 1 ⟨#[]⟩ (-1) (cutP s) (cutQ s) (cutA s), 0)) := Lib.hid (by unfold slashF; rw [HZ.out, if_pos rfl])
    have HPT := Lib.hid (HR.put 1 (-1) ⟨#[]⟩ (cutP s) (cutQ s) (cutA s))
    (have c0 := HR.res.cell 0 _ rfl;
     have c1 := HR.res.cell 1 _ rfl;
     have c2 := HR.res.cell 2 _ rfl;
     have c3 := HR.res.cell 3 _ rfl;
     have c4 := HR.res.cell 4 _ rfl;
     have c5 := HR.res.cell 5 _ rfl;
     have f0 := HR.res.free 0;
     have f1 := HR.res.free 1;
     have f2 := HR.res.free 2;
     have f3 := HR.res.free 3;
     have f4 := HR.res.free 4;
     have f5 := HR.res.free 5)
    clear HR hs7
    go_wp2
    rw [HQ.out]
    exact bodyPost_ret (results10 _ _ b 1 (-1) ⟨#[]⟩ (cutP s) (cutQ s) (cutA s) 0 rfl rfl HPT.out.res) rfl ⟨rfl, HPT.out.ch⟩
end Go.Proofs.YtjndgkbikhndoaaGreatDoor
