/- Layer 6: Print, both sides. -/
import Derived.Test.YtoinhenekeogiaaGreatDoorUB
namespace Go.Proofs.YtoinhenekeogiaaGreatDoor
open Go.RowKit Go.ChangeShapes Go.WideShapes
set_option linter.unusedVariables false

def okS (z : Bool) (s : ByteArray) : ByteArray := if z then s else ⟨#[]⟩
def okE (z : Bool) : Int := if z then 0 else 60
theorem tgt_inj {f f' p p' : Int} {h h' pa pa' q q' : ByteArray} {a a' : Bool} : tgt f h p pa q a = tgt f' h' p' pa' q' a' ↔ (f = f' ∧ h = h' ∧ p = p' ∧ pa = pa' ∧ q = q' ∧ a = a') := by
  unfold tgt
  constructor
  · intro e
    simp only [List.cons.injEq, Value.int.injEq, Value.string.injEq, Value.bool.injEq, and_true, true_and] at e
    exact e
  · rintro ⟨rfl, rfl, rfl, rfl, rfl, rfl⟩
    rfl
theorem parseF_form (m s : ByteArray) (v : Int) : ∃ f h p pa q a, (parseF m s v).1 = tgt f h p pa q a := by
  have z : ∃ f h p pa q a, zeroT = tgt f h p pa q a := ⟨_, _, _, _, _, _, rfl⟩
  unfold parseF
  split
  · exact z
  split
  · unfold connF
    split
    · exact z
    · split
      · exact z
      · exact ⟨_, _, _, _, _, _, rfl⟩
  split
  · split
    · exact ⟨_, _, _, _, _, _, rfl⟩
    · exact z
  split
  · unfold slashF
    split
    · exact ⟨_, _, _, _, _, _, rfl⟩
    · exact z
  split
  · unfold httpF httpG
    split
    · exact z
    · split
      · exact ⟨_, _, _, _, _, _, rfl⟩
      · exact z
  · exact z
theorem bytes_eq (a b : ByteArray) : (a.toList == b.toList) = decide (a = b) := by
  rw [Bool.eq_iff_iff, beq_iff_eq, decide_eq_true_eq, Lib.toList_data, Lib.toList_data]
  constructor
  · intro e
    rw [ofList a _ e, ← ofList b _ rfl]
  · intro e
    rw [e]
def eqT (f f' p p' : Int) (h h' pa pa' q q' : ByteArray) (a a' : Bool) : Bool := decide (f = f') && (decide (h = h') && (decide (p = p') && (decide (pa = pa') && (decide (q = q') && decide (a = a')))))
theorem eqT_iff (f f' p p' : Int) (h h' pa pa' q q' : ByteArray) (a a' : Bool) : eqT f f' p p' h h' pa pa' q q' a a' = true ↔ tgt f h p pa q a = tgt f' h' p' pa' q' a' := by
  unfold eqT
  simp only [decide_eq_true_eq, Bool.and_eq_true, tgt_inj]
set_option maxRecDepth 100000 in
theorem run_eq23 (f f' p p' : Int) (h h' pa pa' q q' : ByteArray) (a a' : Bool) (w : World) :
    (Op.equalIn 10000 23 (.agg #[.int .i64 f, .string h, .int .i64 p, .string pa, .string q, .bool a]) (.agg #[.int .i64 f', .string h', .int .i64 p', .string pa', .string q', .bool a'])).run Tryz.prog w = .ok (eqT f f' p p' h h' pa pa' q q' a a') w := by
  rw [run_equalIn_agg w 9999 23 _ _ (by kernel_rfl) (by kernel_rfl)]
  unfold Program.fieldsOf
  rw [Tryz.underlying23]
  dsimp only
  simp only [Op.eqFields]
  have e0 : (f == f') = decide (f = f') := rfl
  have e2 : (p == p') = decide (p = p') := rfl
  have e5 : (a == a') = decide (a = a') := rfl
  have e1 := bytes_eq h h'
  have e3 := bytes_eq pa pa'
  have e4 := bytes_eq q q'
  unfold eqT
  rw [← e0, ← e1, ← e2, ← e3, ← e4, ← e5]
  generalize hg0 : (f == f') = g0
  generalize hg1 : (h.toList == h'.toList) = g1
  generalize hg2 : (p == p') = g2
  generalize hg3 : (pa.toList == pa'.toList) = g3
  generalize hg4 : (q.toList == q'.toList) = g4
  generalize hg5 : (a == a') = g5
  have u3 := Tryz.underlying3
  have u9 := Tryz.underlying9
  have u4 := Tryz.underlying4
  clear e0 e1 e2 e3 e4 e5
  go_simp
  cases g0 <;> cases g1 <;> cases g2 <;> cases g3 <;> cases g4 <;> cases g5 <;> rfl
theorem guard23 : Tryz.prog.eqGuardType Tryz.prog.depth 23 = false := by kernel_rfl
theorem run_neq23 (f f' p p' : Int) (h h' pa pa' q q' : ByteArray) (a a' : Bool) (w : World) :
    (binOp .neq 23 (.agg #[.int .i64 f, .string h, .int .i64 p, .string pa, .string q, .bool a]) (.agg #[.int .i64 f', .string h', .int .i64 p', .string pa', .string q', .bool a'])).run Tryz.prog w = .ok (.bool (!eqT f f' p p' h h' pa pa' q q' a a')) w := by
  rw [run_neq_struct, run_eq23]
  rfl
theorem run_eql23 (f f' p p' : Int) (h h' pa pa' q q' : ByteArray) (a a' : Bool) (w : World) :
    (binOp .eql 23 (.agg #[.int .i64 f, .string h, .int .i64 p, .string pa, .string q, .bool a]) (.agg #[.int .i64 f', .string h', .int .i64 p', .string pa', .string q', .bool a'])).run Tryz.prog w = .ok (.bool (eqT f f' p p' h h' pa pa' q q' a a')) w := by
  rw [run_eql_struct, run_eq23]
  rfl
set_option maxHeartbeats 8000000 in
set_option maxRecDepth 100000 in
theorem print_any (f : Int) (h : ByteArray) (p : Int) (pa q : ByteArray) (a : Bool) (w : World) (hE : Hid (Env w)) (hp : p ≤ 9223372036854775807) (hh : h.size ≤ 1048576) (hpa : pa.size ≤ 1048576) (hq : q.size ≤ 1048576) (z : Bool) (hz : takes (textM f) (textS f h p pa q a) (tgt f h p pa q a) ↔ z = true) :
    Calls Tryz.prog 4 #[.agg (tgt f h p pa q a).toArray] w fun o w' => o = .returned (.tuple #[.string (okS z (textS f h p pa q a)), .int .i64 (okE z)]) ∧ Hid (Chg [] w w') := by
  have HZ := Lib.hid hz
  clear hz
  have HB0 := Lib.hid (Blk.new w (tgt f h p pa q a) 23)
  have HC0 := Lib.hid ((Chg.refl [] w).alloc (.cells (tgt f h p pa q a).toArray 23))
  change Calls Tryz.prog 4 #[.agg #[.int .i64 f, .string h, .int .i64 p, .string pa, .string q, .bool a]] w _
  go_enter Tryz.func4, Tryz.ntmps4
  go_wp2_with fail
  have HB1 := HB0.out
  have HC1 := HC0.out
  change Blk (w.alloc (.cells #[.int .i64 f, .string h, .int .i64 p, .string pa, .string q, .bool a] 23)) _ _ _ at HB1
  change Chg [] w (w.alloc (.cells #[.int .i64 f, .string h, .int .i64 p, .string pa, .string q, .bool a] 23)) at HC1
  generalize w.alloc (.cells #[.int .i64 f, .string h, .int .i64 p, .string pa, .string q, .bool a] 23) = W1 at HB1 HC1 ⊢
  generalize w.heap.size = b at HB1 ⊢
  refine (text_any f h p pa q a _ (Lib.hid (hE.out.chg HC1)) hp hh hpa hq).mono ?_
  rintro o W2 ⟨rfl, H2⟩
  have HB2 := HB1.chg H2.out (by simp)
  have HC2 := HC1.trans H2.out (by simp)
  clear HB1 HC1
  generalize textM f = M at *
  obtain ⟨S, hSS⟩ : ∃ S, textS f h p pa q a = S := ⟨_, rfl⟩
  rw [hSS] at HZ ⊢
  have HSS := Lib.hid hSS
  clear hSS
  go_wp2_with fail
  refine (parse_any M S _ (Lib.hid (hE.out.chg HC2))).mono ?_
  rintro o W3 ⟨⟨v, hv, rfl⟩, H3⟩
  have HB3 := HB2.chg H3.out (by simp)
  have HC3 := HC2.trans H3.out (by simp)
  clear HB2 HC2
  obtain ⟨f2, h2, p2, pa2, q2, a2, hform⟩ := parseF_form M S v
  have htk := takes_any (m := M) hv (tgt f h p pa q a)
  rw [hform]
  obtain ⟨e2, he2⟩ : ∃ e2, (parseF M S v).2 = e2 := ⟨_, rfl⟩
  rw [he2]
  have HT : Hid (z = true ↔ (tgt f2 h2 p2 pa2 q2 a2 = tgt f h p pa q a ∧ e2 = 0)) := Lib.hid (by
    rw [← HZ.out, ← htk, ← hform, ← he2]
    exact Prod.ext_iff)
  have hn := run_neq23 f2 f p2 p h2 h pa2 pa q2 q a2 a
  have heq := Lib.hid (eqT_iff f2 f p2 p h2 h pa2 pa q2 q a2 a)
  have hg := guard23
  have HB4 : Blk (W3.alloc (.cells #[.int .i64 f2, .string h2, .int .i64 p2, .string pa2, .string q2, .bool a2] 23)) b (tgt f h p pa q a) 23 := HB3.alloc _
  have HC4 := Lib.hid (HC3.alloc (.cells #[.int .i64 f2, .string h2, .int .i64 p2, .string pa2, .string q2, .bool a2] 23))
  clear htk hform he2 hv HB3 HC3
  unfold tgt
  have c0 := HB4.cell 0 _ rfl
  have c1 := HB4.cell 1 _ rfl
  have c2 := HB4.cell 2 _ rfl
  have c3 := HB4.cell 3 _ rfl
  have c4 := HB4.cell 4 _ rfl
  have c5 := HB4.cell 5 _ rfl
  clear HB4
  generalize eqT f2 f p2 p h2 h pa2 pa q2 q a2 a = z2 at *
  by_cases k1 : e2 = 0
  · subst k1
    cases z2
    · have HF := Lib.hid (show z = false from by
        rw [← Bool.not_eq_true, HT.out, ← heq.out]
        simp)
      go_wp2
      go_ret2
      rw [HSS.out, HF.out]
      exact ⟨rfl, HC4.out⟩
    · have HF := Lib.hid (show z = true from HT.out.2 ⟨heq.out.1 rfl, rfl⟩)
      go_wp2
      go_ret2
      rw [HSS.out, HF.out]
      exact ⟨rfl, HC4.out⟩
  · have HF := Lib.hid (show z = false from by
      rw [← Bool.not_eq_true, HT.out]
      exact fun h => k1 h.2)
    have k1b : (e2 == 0) = false := beq_eq_false_iff_ne.2 k1
    go_wp2
    go_ret2
    rw [HSS.out, HF.out]
    exact ⟨rfl, HC4.out⟩
theorem askR (pa q : ByteArray) : (pa ++ ⟨#[63]⟩) ++ q = askB pa q true := by
  unfold askB
  rw [if_pos rfl, ByteArray.append_assoc]
set_option maxHeartbeats 8000000 in
set_option maxRecDepth 100000 in
theorem rprint_any (f : Int) (h : ByteArray) (p : Int) (pa q : ByteArray) (a : Bool) (w : World) (hE : Hid (Env w)) (hp : p ≤ 9223372036854775807) (hh : h.size ≤ 1048576) (hpa : pa.size ≤ 1048576) (hq : q.size ≤ 1048576) (z : Bool) (hz : takes (textM f) (textS f h p pa q a) (tgt f h p pa q a) ↔ z = true) :
    Calls Tryz.prog 5 #[.agg (tgt f h p pa q a).toArray] w fun o w' => o = .returned (.tuple #[.string (okS z (textS f h p pa q a)), .int .i64 (okE z)]) ∧ Hid (Chg [] w w') := by
  have HZ := Lib.hid hz
  clear hz
  have HB0 := Lib.hid (Blk.new w (tgt f h p pa q a) 23)
  have HC0 := Lib.hid ((Chg.refl [] w).alloc (.cells (tgt f h p pa q a).toArray 23))
  have hpl := portB_len p hp
  change Calls Tryz.prog 5 #[.agg #[.int .i64 f, .string h, .int .i64 p, .string pa, .string q, .bool a]] w _
  by_cases p0 : 0 ≤ p
  · go_enter Tryz.func5, Tryz.ntmps5
    go_wp2_with fail
    have HB1 := HB0.out
    have HC1 := HC0.out
    change Blk (w.alloc (.cells #[.int .i64 f, .string h, .int .i64 p, .string pa, .string q, .bool a] 23)) _ _ _ at HB1
    change Chg [] w (w.alloc (.cells #[.int .i64 f, .string h, .int .i64 p, .string pa, .string q, .bool a] 23)) at HC1
    generalize w.alloc (.cells #[.int .i64 f, .string h, .int .i64 p, .string pa, .string q, .bool a] 23) = W1 at HB1 HC1 ⊢
    generalize w.heap.size = b at HB1 ⊢
    refine (itoa_any p _ hp p0 (Lib.hid (hE.out.chg HC1))).mono ?_
    rintro o W2 ⟨rfl, H2⟩
    have HB := Lib.hid (HB1.chg H2.out (by simp))
    have HC := Lib.hid (HC1.trans H2.out (by simp))
    clear HB1 HC1
    have hpb : portB p = ⟨#[58]⟩ ++ ⟨(Lib.itoa p).toArray⟩ := by unfold portB; rw [if_pos p0]
    rw [hpb] at hpl
    have HPB := Lib.hid hpb
    have hk : ¬ (9223372036854775807 < (⟨#[58]⟩ : ByteArray).size + (⟨(Lib.itoa p).toArray⟩ : ByteArray).size) := by
      rw [ByteArray.size_append] at hpl
      have : (⟨#[58]⟩ : ByteArray).size = 1 := rfl
      omega
    generalize (⟨(Lib.itoa p).toArray⟩ : ByteArray) = IT at *
    clear hpb
    go_upto_region 4 with fail
    generalize (⟨#[58]⟩ ++ IT : ByteArray) = PB at *
    have c0 := HB.out.cell 0 _ rfl
    have c1 := HB.out.cell 1 _ rfl
    have c2 := HB.out.cell 2 _ rfl
    have c3 := HB.out.cell 3 _ rfl
    have c4 := HB.out.cell 4 _ rfl
    have c5 := HB.out.cell 5 _ rfl
    obtain ⟨a1, ha1⟩ : ∃ a1, a1 = a := ⟨_, rfl⟩
    cases a1
    · have HAB : Hid (askB pa q a = pa) := Lib.hid (by rw [← ha1]; rfl)
      have ha2 : a = false := ha1.symm
      rw [ha2] at c5
      clear ha1 ha2
      go_upto_region 8 with fail
      have hal : pa.size ≤ 2097153 := by omega
      by_cases f3 : f = 3
      · have HT := Lib.hid (show textM f = ⟨#[67, 79, 78, 78, 69, 67, 84]⟩ ∧ textS f h p pa q a = h ++ PB from by unfold textM textS; rw [if_pos f3, if_pos f3, HPB.out]; exact ⟨rfl, rfl⟩)
        have hc1 : ¬ (9223372036854775807 < h.size + (PB).size) := by omega
        have f3b : (f == 3) = true := beq_iff_eq.2 f3
        have f2b : (f == 2) = false := beq_eq_false_iff_ne.2 (by omega)
        clear f3
        go_upto_region 17 with fail
        have HZ2 := HZ.out
        rw [HT.out.1, HT.out.2] at HZ2
        have HZ3 := Lib.hid HZ2
        have hSS := HT.out.2
        clear HZ2 HZ HT
        generalize (h ++ PB : ByteArray) = S at *
        have HSS := Lib.hid hSS
        clear hSS
        go_wp2_with fail
        refine (rparse_any (⟨#[67, 79, 78, 78, 69, 67, 84]⟩) S _).mono ?_
        rintro o W3 ⟨rfl, H3⟩
        have HB3 := HB.out.chg H3.out (by simp)
        have HC3 := HC.out.trans H3.out (by simp)
        clear c0 c1 c2 c3 c4 c5
        obtain ⟨f2, h2, p2, pa2, q2, a2, hform⟩ := parseF_form (⟨#[67, 79, 78, 78, 69, 67, 84]⟩) S (ixOf S)
        rw [hform]
        obtain ⟨e2, he2⟩ : ∃ e2, (parseF (⟨#[67, 79, 78, 78, 69, 67, 84]⟩) S (ixOf S)).2 = e2 := ⟨_, rfl⟩
        rw [he2]
        have HT : Hid (z = true ↔ (tgt f2 h2 p2 pa2 q2 a2 = tgt f h p pa q a ∧ e2 = 0)) := Lib.hid (by
          rw [← HZ3.out, ← hform, ← he2]
          exact Prod.ext_iff)
        have hn := run_neq23 f2 f p2 p h2 h pa2 pa q2 q a2 a
        have heq := Lib.hid (eqT_iff f2 f p2 p h2 h pa2 pa q2 q a2 a)
        have hg := guard23
        have HB4 : Blk (W3.alloc (.cells #[.int .i64 f2, .string h2, .int .i64 p2, .string pa2, .string q2, .bool a2] 23)) b (tgt f h p pa q a) 23 := HB3.alloc _
        have HC4 := Lib.hid (HC3.alloc (.cells #[.int .i64 f2, .string h2, .int .i64 p2, .string pa2, .string q2, .bool a2] 23))
        clear hform he2 HB3 HC3
        unfold tgt
        have c0 := HB4.cell 0 _ rfl
        have c1 := HB4.cell 1 _ rfl
        have c2 := HB4.cell 2 _ rfl
        have c3 := HB4.cell 3 _ rfl
        have c4 := HB4.cell 4 _ rfl
        have c5 := HB4.cell 5 _ rfl
        clear HB4
        generalize eqT f2 f p2 p h2 h pa2 pa q2 q a2 a = z2 at *
        by_cases k1 : e2 = 0
        · subst k1
          cases z2
          · have HF := Lib.hid (show z = false from by
              rw [← Bool.not_eq_true, HT.out, ← heq.out]
              simp)
            go_wp2
            go_ret2
            rw [HSS.out, HF.out]
            exact ⟨rfl, HC4.out⟩
          · have HF := Lib.hid (show z = true from HT.out.2 ⟨heq.out.1 rfl, rfl⟩)
            go_wp2
            go_ret2
            rw [HSS.out, HF.out]
            exact ⟨rfl, HC4.out⟩
        · have HF := Lib.hid (show z = false from by
            rw [← Bool.not_eq_true, HT.out]
            exact fun h => k1 h.2)
          have k1b : (e2 == 0) = false := beq_eq_false_iff_ne.2 k1
          go_wp2
          go_ret2
          rw [HSS.out, HF.out]
          exact ⟨rfl, HC4.out⟩
      · have f3b : (f == 3) = false := beq_eq_false_iff_ne.2 f3
        by_cases f4 : f = 4
        · have HT := Lib.hid (show textM f = ⟨#[79, 80, 84, 73, 79, 78, 83]⟩ ∧ textS f h p pa q a = ⟨#[42]⟩ from by unfold textM textS; rw [if_neg f3, if_neg f3, if_pos f4, if_pos f4]; exact ⟨rfl, rfl⟩)
          have f4b : (f == 4) = true := beq_iff_eq.2 f4
          have f2b : (f == 2) = false := beq_eq_false_iff_ne.2 (by omega)
          clear f3 f4
          go_upto_region 17 with fail
          have HZ2 := HZ.out
          rw [HT.out.1, HT.out.2] at HZ2
          have HZ3 := Lib.hid HZ2
          have hSS := HT.out.2
          clear HZ2 HZ HT
          generalize (⟨#[42]⟩ : ByteArray) = S at *
          have HSS := Lib.hid hSS
          clear hSS
          go_wp2_with fail
          refine (rparse_any (⟨#[79, 80, 84, 73, 79, 78, 83]⟩) S _).mono ?_
          rintro o W3 ⟨rfl, H3⟩
          have HB3 := HB.out.chg H3.out (by simp)
          have HC3 := HC.out.trans H3.out (by simp)
          clear c0 c1 c2 c3 c4 c5
          obtain ⟨f2, h2, p2, pa2, q2, a2, hform⟩ := parseF_form (⟨#[79, 80, 84, 73, 79, 78, 83]⟩) S (ixOf S)
          rw [hform]
          obtain ⟨e2, he2⟩ : ∃ e2, (parseF (⟨#[79, 80, 84, 73, 79, 78, 83]⟩) S (ixOf S)).2 = e2 := ⟨_, rfl⟩
          rw [he2]
          have HT : Hid (z = true ↔ (tgt f2 h2 p2 pa2 q2 a2 = tgt f h p pa q a ∧ e2 = 0)) := Lib.hid (by
            rw [← HZ3.out, ← hform, ← he2]
            exact Prod.ext_iff)
          have hn := run_neq23 f2 f p2 p h2 h pa2 pa q2 q a2 a
          have heq := Lib.hid (eqT_iff f2 f p2 p h2 h pa2 pa q2 q a2 a)
          have hg := guard23
          have HB4 : Blk (W3.alloc (.cells #[.int .i64 f2, .string h2, .int .i64 p2, .string pa2, .string q2, .bool a2] 23)) b (tgt f h p pa q a) 23 := HB3.alloc _
          have HC4 := Lib.hid (HC3.alloc (.cells #[.int .i64 f2, .string h2, .int .i64 p2, .string pa2, .string q2, .bool a2] 23))
          clear hform he2 HB3 HC3
          unfold tgt
          have c0 := HB4.cell 0 _ rfl
          have c1 := HB4.cell 1 _ rfl
          have c2 := HB4.cell 2 _ rfl
          have c3 := HB4.cell 3 _ rfl
          have c4 := HB4.cell 4 _ rfl
          have c5 := HB4.cell 5 _ rfl
          clear HB4
          generalize eqT f2 f p2 p h2 h pa2 pa q2 q a2 a = z2 at *
          by_cases k1 : e2 = 0
          · subst k1
            cases z2
            · have HF := Lib.hid (show z = false from by
                rw [← Bool.not_eq_true, HT.out, ← heq.out]
                simp)
              go_wp2
              go_ret2
              rw [HSS.out, HF.out]
              exact ⟨rfl, HC4.out⟩
            · have HF := Lib.hid (show z = true from HT.out.2 ⟨heq.out.1 rfl, rfl⟩)
              go_wp2
              go_ret2
              rw [HSS.out, HF.out]
              exact ⟨rfl, HC4.out⟩
          · have HF := Lib.hid (show z = false from by
              rw [← Bool.not_eq_true, HT.out]
              exact fun h => k1 h.2)
            have k1b : (e2 == 0) = false := beq_eq_false_iff_ne.2 k1
            go_wp2
            go_ret2
            rw [HSS.out, HF.out]
            exact ⟨rfl, HC4.out⟩
        · have f4b : (f == 4) = false := beq_eq_false_iff_ne.2 f4
          by_cases f2 : f = 2
          · have HT := Lib.hid (show textM f = ⟨#[71, 69, 84]⟩ ∧ textS f h p pa q a = (⟨#[104, 116, 116, 112, 58, 47, 47]⟩ ++ h ++ PB) ++ pa from by unfold textM textS; rw [if_neg f3, if_neg f3, if_neg f4, if_neg f4, if_pos f2, HPB.out, HAB.out]; exact ⟨rfl, rfl⟩)
            have f2b : (f == 2) = true := beq_iff_eq.2 f2
            have hc1 : ¬ (9223372036854775807 < (⟨#[104, 116, 116, 112, 58, 47, 47]⟩ : ByteArray).size + h.size) := by show ¬ (9223372036854775807 < 7 + h.size); omega
            have hc2 : ¬ (9223372036854775807 < (⟨#[104, 116, 116, 112, 58, 47, 47]⟩ ++ h : ByteArray).size + (PB).size) := by rw [ByteArray.size_append]; show ¬ (9223372036854775807 < 7 + h.size + (PB).size); omega
            have hc3 : ¬ (9223372036854775807 < (⟨#[104, 116, 116, 112, 58, 47, 47]⟩ ++ h ++ PB : ByteArray).size + (pa).size) := by rw [ByteArray.size_append, ByteArray.size_append]; show ¬ (9223372036854775807 < 7 + h.size + (PB).size + (pa).size); omega
            clear f3 f4 f2
            go_upto_region 17 with fail
            have HZ2 := HZ.out
            rw [HT.out.1, HT.out.2] at HZ2
            have HZ3 := Lib.hid HZ2
            have hSS := HT.out.2
            clear HZ2 HZ HT
            generalize ((⟨#[104, 116, 116, 112, 58, 47, 47]⟩ ++ h ++ PB) ++ pa : ByteArray) = S at *
            have HSS := Lib.hid hSS
            clear hSS
            go_wp2_with fail
            refine (rparse_any (⟨#[71, 69, 84]⟩) S _).mono ?_
            rintro o W3 ⟨rfl, H3⟩
            have HB3 := HB.out.chg H3.out (by simp)
            have HC3 := HC.out.trans H3.out (by simp)
            clear c0 c1 c2 c3 c4 c5
            obtain ⟨f2, h2, p2, pa2, q2, a2, hform⟩ := parseF_form (⟨#[71, 69, 84]⟩) S (ixOf S)
            rw [hform]
            obtain ⟨e2, he2⟩ : ∃ e2, (parseF (⟨#[71, 69, 84]⟩) S (ixOf S)).2 = e2 := ⟨_, rfl⟩
            rw [he2]
            have HT : Hid (z = true ↔ (tgt f2 h2 p2 pa2 q2 a2 = tgt f h p pa q a ∧ e2 = 0)) := Lib.hid (by
              rw [← HZ3.out, ← hform, ← he2]
              exact Prod.ext_iff)
            have hn := run_neq23 f2 f p2 p h2 h pa2 pa q2 q a2 a
            have heq := Lib.hid (eqT_iff f2 f p2 p h2 h pa2 pa q2 q a2 a)
            have hg := guard23
            have HB4 : Blk (W3.alloc (.cells #[.int .i64 f2, .string h2, .int .i64 p2, .string pa2, .string q2, .bool a2] 23)) b (tgt f h p pa q a) 23 := HB3.alloc _
            have HC4 := Lib.hid (HC3.alloc (.cells #[.int .i64 f2, .string h2, .int .i64 p2, .string pa2, .string q2, .bool a2] 23))
            clear hform he2 HB3 HC3
            unfold tgt
            have c0 := HB4.cell 0 _ rfl
            have c1 := HB4.cell 1 _ rfl
            have c2 := HB4.cell 2 _ rfl
            have c3 := HB4.cell 3 _ rfl
            have c4 := HB4.cell 4 _ rfl
            have c5 := HB4.cell 5 _ rfl
            clear HB4
            generalize eqT f2 f p2 p h2 h pa2 pa q2 q a2 a = z2 at *
            by_cases k1 : e2 = 0
            · subst k1
              cases z2
              · have HF := Lib.hid (show z = false from by
                  rw [← Bool.not_eq_true, HT.out, ← heq.out]
                  simp)
                go_wp2
                go_ret2
                rw [HSS.out, HF.out]
                exact ⟨rfl, HC4.out⟩
              · have HF := Lib.hid (show z = true from HT.out.2 ⟨heq.out.1 rfl, rfl⟩)
                go_wp2
                go_ret2
                rw [HSS.out, HF.out]
                exact ⟨rfl, HC4.out⟩
            · have HF := Lib.hid (show z = false from by
                rw [← Bool.not_eq_true, HT.out]
                exact fun h => k1 h.2)
              have k1b : (e2 == 0) = false := beq_eq_false_iff_ne.2 k1
              go_wp2
              go_ret2
              rw [HSS.out, HF.out]
              exact ⟨rfl, HC4.out⟩
          · have f2b : (f == 2) = false := beq_eq_false_iff_ne.2 f2
            have HT := Lib.hid (show textM f = ⟨#[71, 69, 84]⟩ ∧ textS f h p pa q a = pa from by unfold textM textS; rw [if_neg f3, if_neg f3, if_neg f4, if_neg f4, if_neg f2, HAB.out]; exact ⟨rfl, rfl⟩)
            clear f3 f4 f2
            go_upto_region 17 with fail
            have HZ2 := HZ.out
            rw [HT.out.1, HT.out.2] at HZ2
            have HZ3 := Lib.hid HZ2
            have hSS := HT.out.2
            clear HZ2 HZ HT
            skip
            have HSS := Lib.hid hSS
            clear hSS
            go_wp2_with fail
            refine (rparse_any (⟨#[71, 69, 84]⟩) pa _).mono ?_
            rintro o W3 ⟨rfl, H3⟩
            have HB3 := HB.out.chg H3.out (by simp)
            have HC3 := HC.out.trans H3.out (by simp)
            clear c0 c1 c2 c3 c4 c5
            obtain ⟨f2, h2, p2, pa2, q2, a2, hform⟩ := parseF_form (⟨#[71, 69, 84]⟩) pa (ixOf pa)
            rw [hform]
            obtain ⟨e2, he2⟩ : ∃ e2, (parseF (⟨#[71, 69, 84]⟩) pa (ixOf pa)).2 = e2 := ⟨_, rfl⟩
            rw [he2]
            have HT : Hid (z = true ↔ (tgt f2 h2 p2 pa2 q2 a2 = tgt f h p pa q a ∧ e2 = 0)) := Lib.hid (by
              rw [← HZ3.out, ← hform, ← he2]
              exact Prod.ext_iff)
            have hn := run_neq23 f2 f p2 p h2 h pa2 pa q2 q a2 a
            have heq := Lib.hid (eqT_iff f2 f p2 p h2 h pa2 pa q2 q a2 a)
            have hg := guard23
            have HB4 : Blk (W3.alloc (.cells #[.int .i64 f2, .string h2, .int .i64 p2, .string pa2, .string q2, .bool a2] 23)) b (tgt f h p pa q a) 23 := HB3.alloc _
            have HC4 := Lib.hid (HC3.alloc (.cells #[.int .i64 f2, .string h2, .int .i64 p2, .string pa2, .string q2, .bool a2] 23))
            clear hform he2 HB3 HC3
            unfold tgt
            have c0 := HB4.cell 0 _ rfl
            have c1 := HB4.cell 1 _ rfl
            have c2 := HB4.cell 2 _ rfl
            have c3 := HB4.cell 3 _ rfl
            have c4 := HB4.cell 4 _ rfl
            have c5 := HB4.cell 5 _ rfl
            clear HB4
            generalize eqT f2 f p2 p h2 h pa2 pa q2 q a2 a = z2 at *
            by_cases k1 : e2 = 0
            · subst k1
              cases z2
              · have HF := Lib.hid (show z = false from by
                  rw [← Bool.not_eq_true, HT.out, ← heq.out]
                  simp)
                go_wp2
                go_ret2
                rw [HSS.out, HF.out]
                exact ⟨rfl, HC4.out⟩
              · have HF := Lib.hid (show z = true from HT.out.2 ⟨heq.out.1 rfl, rfl⟩)
                go_wp2
                go_ret2
                rw [HSS.out, HF.out]
                exact ⟨rfl, HC4.out⟩
            · have HF := Lib.hid (show z = false from by
                rw [← Bool.not_eq_true, HT.out]
                exact fun h => k1 h.2)
              have k1b : (e2 == 0) = false := beq_eq_false_iff_ne.2 k1
              go_wp2
              go_ret2
              rw [HSS.out, HF.out]
              exact ⟨rfl, HC4.out⟩
    · have HAB : Hid (askB pa q a = (pa ++ ⟨#[63]⟩) ++ q) := Lib.hid (by rw [askR, ← ha1])
      have hal : ((pa ++ ⟨#[63]⟩) ++ q).size ≤ pa.size + q.size + 1 := by rw [askR]; exact askB_len pa q true
      have ha2 : a = true := ha1.symm
      rw [ha2] at c5
      clear ha1 ha2
      have hk1 : ¬ (9223372036854775807 < pa.size + (⟨#[63]⟩ : ByteArray).size) := by show ¬ (9223372036854775807 < pa.size + 1); omega
      have hk2 : ¬ (9223372036854775807 < (pa ++ ⟨#[63]⟩ : ByteArray).size + q.size) := by rw [ByteArray.size_append]; show ¬ (9223372036854775807 < (pa.size + 1) + q.size); omega
      go_upto_region 8 with fail
      generalize (pa ++ ⟨#[63]⟩) ++ q = AB at *
      by_cases f3 : f = 3
      · have HT := Lib.hid (show textM f = ⟨#[67, 79, 78, 78, 69, 67, 84]⟩ ∧ textS f h p pa q a = h ++ PB from by unfold textM textS; rw [if_pos f3, if_pos f3, HPB.out]; exact ⟨rfl, rfl⟩)
        have hc1 : ¬ (9223372036854775807 < h.size + (PB).size) := by omega
        have f3b : (f == 3) = true := beq_iff_eq.2 f3
        have f2b : (f == 2) = false := beq_eq_false_iff_ne.2 (by omega)
        clear f3
        go_upto_region 17 with fail
        have HZ2 := HZ.out
        rw [HT.out.1, HT.out.2] at HZ2
        have HZ3 := Lib.hid HZ2
        have hSS := HT.out.2
        clear HZ2 HZ HT
        generalize (h ++ PB : ByteArray) = S at *
        have HSS := Lib.hid hSS
        clear hSS
        go_wp2_with fail
        refine (rparse_any (⟨#[67, 79, 78, 78, 69, 67, 84]⟩) S _).mono ?_
        rintro o W3 ⟨rfl, H3⟩
        have HB3 := HB.out.chg H3.out (by simp)
        have HC3 := HC.out.trans H3.out (by simp)
        clear c0 c1 c2 c3 c4 c5
        obtain ⟨f2, h2, p2, pa2, q2, a2, hform⟩ := parseF_form (⟨#[67, 79, 78, 78, 69, 67, 84]⟩) S (ixOf S)
        rw [hform]
        obtain ⟨e2, he2⟩ : ∃ e2, (parseF (⟨#[67, 79, 78, 78, 69, 67, 84]⟩) S (ixOf S)).2 = e2 := ⟨_, rfl⟩
        rw [he2]
        have HT : Hid (z = true ↔ (tgt f2 h2 p2 pa2 q2 a2 = tgt f h p pa q a ∧ e2 = 0)) := Lib.hid (by
          rw [← HZ3.out, ← hform, ← he2]
          exact Prod.ext_iff)
        have hn := run_neq23 f2 f p2 p h2 h pa2 pa q2 q a2 a
        have heq := Lib.hid (eqT_iff f2 f p2 p h2 h pa2 pa q2 q a2 a)
        have hg := guard23
        have HB4 : Blk (W3.alloc (.cells #[.int .i64 f2, .string h2, .int .i64 p2, .string pa2, .string q2, .bool a2] 23)) b (tgt f h p pa q a) 23 := HB3.alloc _
        have HC4 := Lib.hid (HC3.alloc (.cells #[.int .i64 f2, .string h2, .int .i64 p2, .string pa2, .string q2, .bool a2] 23))
        clear hform he2 HB3 HC3
        unfold tgt
        have c0 := HB4.cell 0 _ rfl
        have c1 := HB4.cell 1 _ rfl
        have c2 := HB4.cell 2 _ rfl
        have c3 := HB4.cell 3 _ rfl
        have c4 := HB4.cell 4 _ rfl
        have c5 := HB4.cell 5 _ rfl
        clear HB4
        generalize eqT f2 f p2 p h2 h pa2 pa q2 q a2 a = z2 at *
        by_cases k1 : e2 = 0
        · subst k1
          cases z2
          · have HF := Lib.hid (show z = false from by
              rw [← Bool.not_eq_true, HT.out, ← heq.out]
              simp)
            go_wp2
            go_ret2
            rw [HSS.out, HF.out]
            exact ⟨rfl, HC4.out⟩
          · have HF := Lib.hid (show z = true from HT.out.2 ⟨heq.out.1 rfl, rfl⟩)
            go_wp2
            go_ret2
            rw [HSS.out, HF.out]
            exact ⟨rfl, HC4.out⟩
        · have HF := Lib.hid (show z = false from by
            rw [← Bool.not_eq_true, HT.out]
            exact fun h => k1 h.2)
          have k1b : (e2 == 0) = false := beq_eq_false_iff_ne.2 k1
          go_wp2
          go_ret2
          rw [HSS.out, HF.out]
          exact ⟨rfl, HC4.out⟩
      · have f3b : (f == 3) = false := beq_eq_false_iff_ne.2 f3
        by_cases f4 : f = 4
        · have HT := Lib.hid (show textM f = ⟨#[79, 80, 84, 73, 79, 78, 83]⟩ ∧ textS f h p pa q a = ⟨#[42]⟩ from by unfold textM textS; rw [if_neg f3, if_neg f3, if_pos f4, if_pos f4]; exact ⟨rfl, rfl⟩)
          have f4b : (f == 4) = true := beq_iff_eq.2 f4
          have f2b : (f == 2) = false := beq_eq_false_iff_ne.2 (by omega)
          clear f3 f4
          go_upto_region 17 with fail
          have HZ2 := HZ.out
          rw [HT.out.1, HT.out.2] at HZ2
          have HZ3 := Lib.hid HZ2
          have hSS := HT.out.2
          clear HZ2 HZ HT
          generalize (⟨#[42]⟩ : ByteArray) = S at *
          have HSS := Lib.hid hSS
          clear hSS
          go_wp2_with fail
          refine (rparse_any (⟨#[79, 80, 84, 73, 79, 78, 83]⟩) S _).mono ?_
          rintro o W3 ⟨rfl, H3⟩
          have HB3 := HB.out.chg H3.out (by simp)
          have HC3 := HC.out.trans H3.out (by simp)
          clear c0 c1 c2 c3 c4 c5
          obtain ⟨f2, h2, p2, pa2, q2, a2, hform⟩ := parseF_form (⟨#[79, 80, 84, 73, 79, 78, 83]⟩) S (ixOf S)
          rw [hform]
          obtain ⟨e2, he2⟩ : ∃ e2, (parseF (⟨#[79, 80, 84, 73, 79, 78, 83]⟩) S (ixOf S)).2 = e2 := ⟨_, rfl⟩
          rw [he2]
          have HT : Hid (z = true ↔ (tgt f2 h2 p2 pa2 q2 a2 = tgt f h p pa q a ∧ e2 = 0)) := Lib.hid (by
            rw [← HZ3.out, ← hform, ← he2]
            exact Prod.ext_iff)
          have hn := run_neq23 f2 f p2 p h2 h pa2 pa q2 q a2 a
          have heq := Lib.hid (eqT_iff f2 f p2 p h2 h pa2 pa q2 q a2 a)
          have hg := guard23
          have HB4 : Blk (W3.alloc (.cells #[.int .i64 f2, .string h2, .int .i64 p2, .string pa2, .string q2, .bool a2] 23)) b (tgt f h p pa q a) 23 := HB3.alloc _
          have HC4 := Lib.hid (HC3.alloc (.cells #[.int .i64 f2, .string h2, .int .i64 p2, .string pa2, .string q2, .bool a2] 23))
          clear hform he2 HB3 HC3
          unfold tgt
          have c0 := HB4.cell 0 _ rfl
          have c1 := HB4.cell 1 _ rfl
          have c2 := HB4.cell 2 _ rfl
          have c3 := HB4.cell 3 _ rfl
          have c4 := HB4.cell 4 _ rfl
          have c5 := HB4.cell 5 _ rfl
          clear HB4
          generalize eqT f2 f p2 p h2 h pa2 pa q2 q a2 a = z2 at *
          by_cases k1 : e2 = 0
          · subst k1
            cases z2
            · have HF := Lib.hid (show z = false from by
                rw [← Bool.not_eq_true, HT.out, ← heq.out]
                simp)
              go_wp2
              go_ret2
              rw [HSS.out, HF.out]
              exact ⟨rfl, HC4.out⟩
            · have HF := Lib.hid (show z = true from HT.out.2 ⟨heq.out.1 rfl, rfl⟩)
              go_wp2
              go_ret2
              rw [HSS.out, HF.out]
              exact ⟨rfl, HC4.out⟩
          · have HF := Lib.hid (show z = false from by
              rw [← Bool.not_eq_true, HT.out]
              exact fun h => k1 h.2)
            have k1b : (e2 == 0) = false := beq_eq_false_iff_ne.2 k1
            go_wp2
            go_ret2
            rw [HSS.out, HF.out]
            exact ⟨rfl, HC4.out⟩
        · have f4b : (f == 4) = false := beq_eq_false_iff_ne.2 f4
          by_cases f2 : f = 2
          · have HT := Lib.hid (show textM f = ⟨#[71, 69, 84]⟩ ∧ textS f h p pa q a = (⟨#[104, 116, 116, 112, 58, 47, 47]⟩ ++ h ++ PB) ++ AB from by unfold textM textS; rw [if_neg f3, if_neg f3, if_neg f4, if_neg f4, if_pos f2, HPB.out, HAB.out]; exact ⟨rfl, rfl⟩)
            have f2b : (f == 2) = true := beq_iff_eq.2 f2
            have hc1 : ¬ (9223372036854775807 < (⟨#[104, 116, 116, 112, 58, 47, 47]⟩ : ByteArray).size + h.size) := by show ¬ (9223372036854775807 < 7 + h.size); omega
            have hc2 : ¬ (9223372036854775807 < (⟨#[104, 116, 116, 112, 58, 47, 47]⟩ ++ h : ByteArray).size + (PB).size) := by rw [ByteArray.size_append]; show ¬ (9223372036854775807 < 7 + h.size + (PB).size); omega
            have hc3 : ¬ (9223372036854775807 < (⟨#[104, 116, 116, 112, 58, 47, 47]⟩ ++ h ++ PB : ByteArray).size + (AB).size) := by rw [ByteArray.size_append, ByteArray.size_append]; show ¬ (9223372036854775807 < 7 + h.size + (PB).size + (AB).size); omega
            clear f3 f4 f2
            go_upto_region 17 with fail
            have HZ2 := HZ.out
            rw [HT.out.1, HT.out.2] at HZ2
            have HZ3 := Lib.hid HZ2
            have hSS := HT.out.2
            clear HZ2 HZ HT
            generalize ((⟨#[104, 116, 116, 112, 58, 47, 47]⟩ ++ h ++ PB) ++ AB : ByteArray) = S at *
            have HSS := Lib.hid hSS
            clear hSS
            go_wp2_with fail
            refine (rparse_any (⟨#[71, 69, 84]⟩) S _).mono ?_
            rintro o W3 ⟨rfl, H3⟩
            have HB3 := HB.out.chg H3.out (by simp)
            have HC3 := HC.out.trans H3.out (by simp)
            clear c0 c1 c2 c3 c4 c5
            obtain ⟨f2, h2, p2, pa2, q2, a2, hform⟩ := parseF_form (⟨#[71, 69, 84]⟩) S (ixOf S)
            rw [hform]
            obtain ⟨e2, he2⟩ : ∃ e2, (parseF (⟨#[71, 69, 84]⟩) S (ixOf S)).2 = e2 := ⟨_, rfl⟩
            rw [he2]
            have HT : Hid (z = true ↔ (tgt f2 h2 p2 pa2 q2 a2 = tgt f h p pa q a ∧ e2 = 0)) := Lib.hid (by
              rw [← HZ3.out, ← hform, ← he2]
              exact Prod.ext_iff)
            have hn := run_neq23 f2 f p2 p h2 h pa2 pa q2 q a2 a
            have heq := Lib.hid (eqT_iff f2 f p2 p h2 h pa2 pa q2 q a2 a)
            have hg := guard23
            have HB4 : Blk (W3.alloc (.cells #[.int .i64 f2, .string h2, .int .i64 p2, .string pa2, .string q2, .bool a2] 23)) b (tgt f h p pa q a) 23 := HB3.alloc _
            have HC4 := Lib.hid (HC3.alloc (.cells #[.int .i64 f2, .string h2, .int .i64 p2, .string pa2, .string q2, .bool a2] 23))
            clear hform he2 HB3 HC3
            unfold tgt
            have c0 := HB4.cell 0 _ rfl
            have c1 := HB4.cell 1 _ rfl
            have c2 := HB4.cell 2 _ rfl
            have c3 := HB4.cell 3 _ rfl
            have c4 := HB4.cell 4 _ rfl
            have c5 := HB4.cell 5 _ rfl
            clear HB4
            generalize eqT f2 f p2 p h2 h pa2 pa q2 q a2 a = z2 at *
            by_cases k1 : e2 = 0
            · subst k1
              cases z2
              · have HF := Lib.hid (show z = false from by
                  rw [← Bool.not_eq_true, HT.out, ← heq.out]
                  simp)
                go_wp2
                go_ret2
                rw [HSS.out, HF.out]
                exact ⟨rfl, HC4.out⟩
              · have HF := Lib.hid (show z = true from HT.out.2 ⟨heq.out.1 rfl, rfl⟩)
                go_wp2
                go_ret2
                rw [HSS.out, HF.out]
                exact ⟨rfl, HC4.out⟩
            · have HF := Lib.hid (show z = false from by
                rw [← Bool.not_eq_true, HT.out]
                exact fun h => k1 h.2)
              have k1b : (e2 == 0) = false := beq_eq_false_iff_ne.2 k1
              go_wp2
              go_ret2
              rw [HSS.out, HF.out]
              exact ⟨rfl, HC4.out⟩
          · have f2b : (f == 2) = false := beq_eq_false_iff_ne.2 f2
            have HT := Lib.hid (show textM f = ⟨#[71, 69, 84]⟩ ∧ textS f h p pa q a = AB from by unfold textM textS; rw [if_neg f3, if_neg f3, if_neg f4, if_neg f4, if_neg f2, HAB.out]; exact ⟨rfl, rfl⟩)
            clear f3 f4 f2
            go_upto_region 17 with fail
            have HZ2 := HZ.out
            rw [HT.out.1, HT.out.2] at HZ2
            have HZ3 := Lib.hid HZ2
            have hSS := HT.out.2
            clear HZ2 HZ HT
            generalize AB = S at *
            have HSS := Lib.hid hSS
            clear hSS
            go_wp2_with fail
            refine (rparse_any (⟨#[71, 69, 84]⟩) S _).mono ?_
            rintro o W3 ⟨rfl, H3⟩
            have HB3 := HB.out.chg H3.out (by simp)
            have HC3 := HC.out.trans H3.out (by simp)
            clear c0 c1 c2 c3 c4 c5
            obtain ⟨f2, h2, p2, pa2, q2, a2, hform⟩ := parseF_form (⟨#[71, 69, 84]⟩) S (ixOf S)
            rw [hform]
            obtain ⟨e2, he2⟩ : ∃ e2, (parseF (⟨#[71, 69, 84]⟩) S (ixOf S)).2 = e2 := ⟨_, rfl⟩
            rw [he2]
            have HT : Hid (z = true ↔ (tgt f2 h2 p2 pa2 q2 a2 = tgt f h p pa q a ∧ e2 = 0)) := Lib.hid (by
              rw [← HZ3.out, ← hform, ← he2]
              exact Prod.ext_iff)
            have hn := run_neq23 f2 f p2 p h2 h pa2 pa q2 q a2 a
            have heq := Lib.hid (eqT_iff f2 f p2 p h2 h pa2 pa q2 q a2 a)
            have hg := guard23
            have HB4 : Blk (W3.alloc (.cells #[.int .i64 f2, .string h2, .int .i64 p2, .string pa2, .string q2, .bool a2] 23)) b (tgt f h p pa q a) 23 := HB3.alloc _
            have HC4 := Lib.hid (HC3.alloc (.cells #[.int .i64 f2, .string h2, .int .i64 p2, .string pa2, .string q2, .bool a2] 23))
            clear hform he2 HB3 HC3
            unfold tgt
            have c0 := HB4.cell 0 _ rfl
            have c1 := HB4.cell 1 _ rfl
            have c2 := HB4.cell 2 _ rfl
            have c3 := HB4.cell 3 _ rfl
            have c4 := HB4.cell 4 _ rfl
            have c5 := HB4.cell 5 _ rfl
            clear HB4
            generalize eqT f2 f p2 p h2 h pa2 pa q2 q a2 a = z2 at *
            by_cases k1 : e2 = 0
            · subst k1
              cases z2
              · have HF := Lib.hid (show z = false from by
                  rw [← Bool.not_eq_true, HT.out, ← heq.out]
                  simp)
                go_wp2
                go_ret2
                rw [HSS.out, HF.out]
                exact ⟨rfl, HC4.out⟩
              · have HF := Lib.hid (show z = true from HT.out.2 ⟨heq.out.1 rfl, rfl⟩)
                go_wp2
                go_ret2
                rw [HSS.out, HF.out]
                exact ⟨rfl, HC4.out⟩
            · have HF := Lib.hid (show z = false from by
                rw [← Bool.not_eq_true, HT.out]
                exact fun h => k1 h.2)
              have k1b : (e2 == 0) = false := beq_eq_false_iff_ne.2 k1
              go_wp2
              go_ret2
              rw [HSS.out, HF.out]
              exact ⟨rfl, HC4.out⟩
  · have hpb : portB p = ⟨#[]⟩ := by unfold portB; rw [if_neg p0]
    have HPB := Lib.hid hpb
    have hpl : (⟨#[]⟩ : ByteArray).size ≤ 22 := by decide
    clear hpb
    go_enter Tryz.func5, Tryz.ntmps5
    go_upto_region 4 with fail
    have HB1 := HB0.out
    have HC1 := HC0.out
    change Blk (w.alloc (.cells #[.int .i64 f, .string h, .int .i64 p, .string pa, .string q, .bool a] 23)) _ _ _ at HB1
    change Chg [] w (w.alloc (.cells #[.int .i64 f, .string h, .int .i64 p, .string pa, .string q, .bool a] 23)) at HC1
    generalize w.alloc (.cells #[.int .i64 f, .string h, .int .i64 p, .string pa, .string q, .bool a] 23) = W2 at HB1 HC1 ⊢
    generalize w.heap.size = b at HB1 ⊢
    have HB := Lib.hid HB1
    have HC := Lib.hid HC1
    clear HB1 HC1
    have c0 := HB.out.cell 0 _ rfl
    have c1 := HB.out.cell 1 _ rfl
    have c2 := HB.out.cell 2 _ rfl
    have c3 := HB.out.cell 3 _ rfl
    have c4 := HB.out.cell 4 _ rfl
    have c5 := HB.out.cell 5 _ rfl
    obtain ⟨a1, ha1⟩ : ∃ a1, a1 = a := ⟨_, rfl⟩
    cases a1
    · have HAB : Hid (askB pa q a = pa) := Lib.hid (by rw [← ha1]; rfl)
      have ha2 : a = false := ha1.symm
      rw [ha2] at c5
      clear ha1 ha2
      go_upto_region 8 with fail
      have hal : pa.size ≤ 2097153 := by omega
      by_cases f3 : f = 3
      · have HT := Lib.hid (show textM f = ⟨#[67, 79, 78, 78, 69, 67, 84]⟩ ∧ textS f h p pa q a = h ++ (⟨#[]⟩ : ByteArray) from by unfold textM textS; rw [if_pos f3, if_pos f3, HPB.out]; exact ⟨rfl, rfl⟩)
        have hc1 : ¬ (9223372036854775807 < h.size + ((⟨#[]⟩ : ByteArray)).size) := by omega
        have f3b : (f == 3) = true := beq_iff_eq.2 f3
        have f2b : (f == 2) = false := beq_eq_false_iff_ne.2 (by omega)
        clear f3
        go_upto_region 17 with fail
        have HZ2 := HZ.out
        rw [HT.out.1, HT.out.2] at HZ2
        have HZ3 := Lib.hid HZ2
        have hSS := HT.out.2
        clear HZ2 HZ HT
        generalize (h ++ (⟨#[]⟩ : ByteArray) : ByteArray) = S at *
        have HSS := Lib.hid hSS
        clear hSS
        go_wp2_with fail
        refine (rparse_any (⟨#[67, 79, 78, 78, 69, 67, 84]⟩) S _).mono ?_
        rintro o W3 ⟨rfl, H3⟩
        have HB3 := HB.out.chg H3.out (by simp)
        have HC3 := HC.out.trans H3.out (by simp)
        clear c0 c1 c2 c3 c4 c5
        obtain ⟨f2, h2, p2, pa2, q2, a2, hform⟩ := parseF_form (⟨#[67, 79, 78, 78, 69, 67, 84]⟩) S (ixOf S)
        rw [hform]
        obtain ⟨e2, he2⟩ : ∃ e2, (parseF (⟨#[67, 79, 78, 78, 69, 67, 84]⟩) S (ixOf S)).2 = e2 := ⟨_, rfl⟩
        rw [he2]
        have HT : Hid (z = true ↔ (tgt f2 h2 p2 pa2 q2 a2 = tgt f h p pa q a ∧ e2 = 0)) := Lib.hid (by
          rw [← HZ3.out, ← hform, ← he2]
          exact Prod.ext_iff)
        have hn := run_neq23 f2 f p2 p h2 h pa2 pa q2 q a2 a
        have heq := Lib.hid (eqT_iff f2 f p2 p h2 h pa2 pa q2 q a2 a)
        have hg := guard23
        have HB4 : Blk (W3.alloc (.cells #[.int .i64 f2, .string h2, .int .i64 p2, .string pa2, .string q2, .bool a2] 23)) b (tgt f h p pa q a) 23 := HB3.alloc _
        have HC4 := Lib.hid (HC3.alloc (.cells #[.int .i64 f2, .string h2, .int .i64 p2, .string pa2, .string q2, .bool a2] 23))
        clear hform he2 HB3 HC3
        unfold tgt
        have c0 := HB4.cell 0 _ rfl
        have c1 := HB4.cell 1 _ rfl
        have c2 := HB4.cell 2 _ rfl
        have c3 := HB4.cell 3 _ rfl
        have c4 := HB4.cell 4 _ rfl
        have c5 := HB4.cell 5 _ rfl
        clear HB4
        generalize eqT f2 f p2 p h2 h pa2 pa q2 q a2 a = z2 at *
        by_cases k1 : e2 = 0
        · subst k1
          cases z2
          · have HF := Lib.hid (show z = false from by
              rw [← Bool.not_eq_true, HT.out, ← heq.out]
              simp)
            go_wp2
            go_ret2
            rw [HSS.out, HF.out]
            exact ⟨rfl, HC4.out⟩
          · have HF := Lib.hid (show z = true from HT.out.2 ⟨heq.out.1 rfl, rfl⟩)
            go_wp2
            go_ret2
            rw [HSS.out, HF.out]
            exact ⟨rfl, HC4.out⟩
        · have HF := Lib.hid (show z = false from by
            rw [← Bool.not_eq_true, HT.out]
            exact fun h => k1 h.2)
          have k1b : (e2 == 0) = false := beq_eq_false_iff_ne.2 k1
          go_wp2
          go_ret2
          rw [HSS.out, HF.out]
          exact ⟨rfl, HC4.out⟩
      · have f3b : (f == 3) = false := beq_eq_false_iff_ne.2 f3
        by_cases f4 : f = 4
        · have HT := Lib.hid (show textM f = ⟨#[79, 80, 84, 73, 79, 78, 83]⟩ ∧ textS f h p pa q a = ⟨#[42]⟩ from by unfold textM textS; rw [if_neg f3, if_neg f3, if_pos f4, if_pos f4]; exact ⟨rfl, rfl⟩)
          have f4b : (f == 4) = true := beq_iff_eq.2 f4
          have f2b : (f == 2) = false := beq_eq_false_iff_ne.2 (by omega)
          clear f3 f4
          go_upto_region 17 with fail
          have HZ2 := HZ.out
          rw [HT.out.1, HT.out.2] at HZ2
          have HZ3 := Lib.hid HZ2
          have hSS := HT.out.2
          clear HZ2 HZ HT
          generalize (⟨#[42]⟩ : ByteArray) = S at *
          have HSS := Lib.hid hSS
          clear hSS
          go_wp2_with fail
          refine (rparse_any (⟨#[79, 80, 84, 73, 79, 78, 83]⟩) S _).mono ?_
          rintro o W3 ⟨rfl, H3⟩
          have HB3 := HB.out.chg H3.out (by simp)
          have HC3 := HC.out.trans H3.out (by simp)
          clear c0 c1 c2 c3 c4 c5
          obtain ⟨f2, h2, p2, pa2, q2, a2, hform⟩ := parseF_form (⟨#[79, 80, 84, 73, 79, 78, 83]⟩) S (ixOf S)
          rw [hform]
          obtain ⟨e2, he2⟩ : ∃ e2, (parseF (⟨#[79, 80, 84, 73, 79, 78, 83]⟩) S (ixOf S)).2 = e2 := ⟨_, rfl⟩
          rw [he2]
          have HT : Hid (z = true ↔ (tgt f2 h2 p2 pa2 q2 a2 = tgt f h p pa q a ∧ e2 = 0)) := Lib.hid (by
            rw [← HZ3.out, ← hform, ← he2]
            exact Prod.ext_iff)
          have hn := run_neq23 f2 f p2 p h2 h pa2 pa q2 q a2 a
          have heq := Lib.hid (eqT_iff f2 f p2 p h2 h pa2 pa q2 q a2 a)
          have hg := guard23
          have HB4 : Blk (W3.alloc (.cells #[.int .i64 f2, .string h2, .int .i64 p2, .string pa2, .string q2, .bool a2] 23)) b (tgt f h p pa q a) 23 := HB3.alloc _
          have HC4 := Lib.hid (HC3.alloc (.cells #[.int .i64 f2, .string h2, .int .i64 p2, .string pa2, .string q2, .bool a2] 23))
          clear hform he2 HB3 HC3
          unfold tgt
          have c0 := HB4.cell 0 _ rfl
          have c1 := HB4.cell 1 _ rfl
          have c2 := HB4.cell 2 _ rfl
          have c3 := HB4.cell 3 _ rfl
          have c4 := HB4.cell 4 _ rfl
          have c5 := HB4.cell 5 _ rfl
          clear HB4
          generalize eqT f2 f p2 p h2 h pa2 pa q2 q a2 a = z2 at *
          by_cases k1 : e2 = 0
          · subst k1
            cases z2
            · have HF := Lib.hid (show z = false from by
                rw [← Bool.not_eq_true, HT.out, ← heq.out]
                simp)
              go_wp2
              go_ret2
              rw [HSS.out, HF.out]
              exact ⟨rfl, HC4.out⟩
            · have HF := Lib.hid (show z = true from HT.out.2 ⟨heq.out.1 rfl, rfl⟩)
              go_wp2
              go_ret2
              rw [HSS.out, HF.out]
              exact ⟨rfl, HC4.out⟩
          · have HF := Lib.hid (show z = false from by
              rw [← Bool.not_eq_true, HT.out]
              exact fun h => k1 h.2)
            have k1b : (e2 == 0) = false := beq_eq_false_iff_ne.2 k1
            go_wp2
            go_ret2
            rw [HSS.out, HF.out]
            exact ⟨rfl, HC4.out⟩
        · have f4b : (f == 4) = false := beq_eq_false_iff_ne.2 f4
          by_cases f2 : f = 2
          · have HT := Lib.hid (show textM f = ⟨#[71, 69, 84]⟩ ∧ textS f h p pa q a = (⟨#[104, 116, 116, 112, 58, 47, 47]⟩ ++ h ++ (⟨#[]⟩ : ByteArray)) ++ pa from by unfold textM textS; rw [if_neg f3, if_neg f3, if_neg f4, if_neg f4, if_pos f2, HPB.out, HAB.out]; exact ⟨rfl, rfl⟩)
            have f2b : (f == 2) = true := beq_iff_eq.2 f2
            have hc1 : ¬ (9223372036854775807 < (⟨#[104, 116, 116, 112, 58, 47, 47]⟩ : ByteArray).size + h.size) := by show ¬ (9223372036854775807 < 7 + h.size); omega
            have hc2 : ¬ (9223372036854775807 < (⟨#[104, 116, 116, 112, 58, 47, 47]⟩ ++ h : ByteArray).size + ((⟨#[]⟩ : ByteArray)).size) := by rw [ByteArray.size_append]; show ¬ (9223372036854775807 < 7 + h.size + ((⟨#[]⟩ : ByteArray)).size); omega
            have hc3 : ¬ (9223372036854775807 < (⟨#[104, 116, 116, 112, 58, 47, 47]⟩ ++ h ++ (⟨#[]⟩ : ByteArray) : ByteArray).size + (pa).size) := by rw [ByteArray.size_append, ByteArray.size_append]; show ¬ (9223372036854775807 < 7 + h.size + ((⟨#[]⟩ : ByteArray)).size + (pa).size); omega
            clear f3 f4 f2
            go_upto_region 17 with fail
            have HZ2 := HZ.out
            rw [HT.out.1, HT.out.2] at HZ2
            have HZ3 := Lib.hid HZ2
            have hSS := HT.out.2
            clear HZ2 HZ HT
            generalize ((⟨#[104, 116, 116, 112, 58, 47, 47]⟩ ++ h ++ (⟨#[]⟩ : ByteArray)) ++ pa : ByteArray) = S at *
            have HSS := Lib.hid hSS
            clear hSS
            go_wp2_with fail
            refine (rparse_any (⟨#[71, 69, 84]⟩) S _).mono ?_
            rintro o W3 ⟨rfl, H3⟩
            have HB3 := HB.out.chg H3.out (by simp)
            have HC3 := HC.out.trans H3.out (by simp)
            clear c0 c1 c2 c3 c4 c5
            obtain ⟨f2, h2, p2, pa2, q2, a2, hform⟩ := parseF_form (⟨#[71, 69, 84]⟩) S (ixOf S)
            rw [hform]
            obtain ⟨e2, he2⟩ : ∃ e2, (parseF (⟨#[71, 69, 84]⟩) S (ixOf S)).2 = e2 := ⟨_, rfl⟩
            rw [he2]
            have HT : Hid (z = true ↔ (tgt f2 h2 p2 pa2 q2 a2 = tgt f h p pa q a ∧ e2 = 0)) := Lib.hid (by
              rw [← HZ3.out, ← hform, ← he2]
              exact Prod.ext_iff)
            have hn := run_neq23 f2 f p2 p h2 h pa2 pa q2 q a2 a
            have heq := Lib.hid (eqT_iff f2 f p2 p h2 h pa2 pa q2 q a2 a)
            have hg := guard23
            have HB4 : Blk (W3.alloc (.cells #[.int .i64 f2, .string h2, .int .i64 p2, .string pa2, .string q2, .bool a2] 23)) b (tgt f h p pa q a) 23 := HB3.alloc _
            have HC4 := Lib.hid (HC3.alloc (.cells #[.int .i64 f2, .string h2, .int .i64 p2, .string pa2, .string q2, .bool a2] 23))
            clear hform he2 HB3 HC3
            unfold tgt
            have c0 := HB4.cell 0 _ rfl
            have c1 := HB4.cell 1 _ rfl
            have c2 := HB4.cell 2 _ rfl
            have c3 := HB4.cell 3 _ rfl
            have c4 := HB4.cell 4 _ rfl
            have c5 := HB4.cell 5 _ rfl
            clear HB4
            generalize eqT f2 f p2 p h2 h pa2 pa q2 q a2 a = z2 at *
            by_cases k1 : e2 = 0
            · subst k1
              cases z2
              · have HF := Lib.hid (show z = false from by
                  rw [← Bool.not_eq_true, HT.out, ← heq.out]
                  simp)
                go_wp2
                go_ret2
                rw [HSS.out, HF.out]
                exact ⟨rfl, HC4.out⟩
              · have HF := Lib.hid (show z = true from HT.out.2 ⟨heq.out.1 rfl, rfl⟩)
                go_wp2
                go_ret2
                rw [HSS.out, HF.out]
                exact ⟨rfl, HC4.out⟩
            · have HF := Lib.hid (show z = false from by
                rw [← Bool.not_eq_true, HT.out]
                exact fun h => k1 h.2)
              have k1b : (e2 == 0) = false := beq_eq_false_iff_ne.2 k1
              go_wp2
              go_ret2
              rw [HSS.out, HF.out]
              exact ⟨rfl, HC4.out⟩
          · have f2b : (f == 2) = false := beq_eq_false_iff_ne.2 f2
            have HT := Lib.hid (show textM f = ⟨#[71, 69, 84]⟩ ∧ textS f h p pa q a = pa from by unfold textM textS; rw [if_neg f3, if_neg f3, if_neg f4, if_neg f4, if_neg f2, HAB.out]; exact ⟨rfl, rfl⟩)
            clear f3 f4 f2
            go_upto_region 17 with fail
            have HZ2 := HZ.out
            rw [HT.out.1, HT.out.2] at HZ2
            have HZ3 := Lib.hid HZ2
            have hSS := HT.out.2
            clear HZ2 HZ HT
            skip
            have HSS := Lib.hid hSS
            clear hSS
            go_wp2_with fail
            refine (rparse_any (⟨#[71, 69, 84]⟩) pa _).mono ?_
            rintro o W3 ⟨rfl, H3⟩
            have HB3 := HB.out.chg H3.out (by simp)
            have HC3 := HC.out.trans H3.out (by simp)
            clear c0 c1 c2 c3 c4 c5
            obtain ⟨f2, h2, p2, pa2, q2, a2, hform⟩ := parseF_form (⟨#[71, 69, 84]⟩) pa (ixOf pa)
            rw [hform]
            obtain ⟨e2, he2⟩ : ∃ e2, (parseF (⟨#[71, 69, 84]⟩) pa (ixOf pa)).2 = e2 := ⟨_, rfl⟩
            rw [he2]
            have HT : Hid (z = true ↔ (tgt f2 h2 p2 pa2 q2 a2 = tgt f h p pa q a ∧ e2 = 0)) := Lib.hid (by
              rw [← HZ3.out, ← hform, ← he2]
              exact Prod.ext_iff)
            have hn := run_neq23 f2 f p2 p h2 h pa2 pa q2 q a2 a
            have heq := Lib.hid (eqT_iff f2 f p2 p h2 h pa2 pa q2 q a2 a)
            have hg := guard23
            have HB4 : Blk (W3.alloc (.cells #[.int .i64 f2, .string h2, .int .i64 p2, .string pa2, .string q2, .bool a2] 23)) b (tgt f h p pa q a) 23 := HB3.alloc _
            have HC4 := Lib.hid (HC3.alloc (.cells #[.int .i64 f2, .string h2, .int .i64 p2, .string pa2, .string q2, .bool a2] 23))
            clear hform he2 HB3 HC3
            unfold tgt
            have c0 := HB4.cell 0 _ rfl
            have c1 := HB4.cell 1 _ rfl
            have c2 := HB4.cell 2 _ rfl
            have c3 := HB4.cell 3 _ rfl
            have c4 := HB4.cell 4 _ rfl
            have c5 := HB4.cell 5 _ rfl
            clear HB4
            generalize eqT f2 f p2 p h2 h pa2 pa q2 q a2 a = z2 at *
            by_cases k1 : e2 = 0
            · subst k1
              cases z2
              · have HF := Lib.hid (show z = false from by
                  rw [← Bool.not_eq_true, HT.out, ← heq.out]
                  simp)
                go_wp2
                go_ret2
                rw [HSS.out, HF.out]
                exact ⟨rfl, HC4.out⟩
              · have HF := Lib.hid (show z = true from HT.out.2 ⟨heq.out.1 rfl, rfl⟩)
                go_wp2
                go_ret2
                rw [HSS.out, HF.out]
                exact ⟨rfl, HC4.out⟩
            · have HF := Lib.hid (show z = false from by
                rw [← Bool.not_eq_true, HT.out]
                exact fun h => k1 h.2)
              have k1b : (e2 == 0) = false := beq_eq_false_iff_ne.2 k1
              go_wp2
              go_ret2
              rw [HSS.out, HF.out]
              exact ⟨rfl, HC4.out⟩
    · have HAB : Hid (askB pa q a = (pa ++ ⟨#[63]⟩) ++ q) := Lib.hid (by rw [askR, ← ha1])
      have hal : ((pa ++ ⟨#[63]⟩) ++ q).size ≤ pa.size + q.size + 1 := by rw [askR]; exact askB_len pa q true
      have ha2 : a = true := ha1.symm
      rw [ha2] at c5
      clear ha1 ha2
      have hk1 : ¬ (9223372036854775807 < pa.size + (⟨#[63]⟩ : ByteArray).size) := by show ¬ (9223372036854775807 < pa.size + 1); omega
      have hk2 : ¬ (9223372036854775807 < (pa ++ ⟨#[63]⟩ : ByteArray).size + q.size) := by rw [ByteArray.size_append]; show ¬ (9223372036854775807 < (pa.size + 1) + q.size); omega
      go_upto_region 8 with fail
      generalize (pa ++ ⟨#[63]⟩) ++ q = AB at *
      by_cases f3 : f = 3
      · have HT := Lib.hid (show textM f = ⟨#[67, 79, 78, 78, 69, 67, 84]⟩ ∧ textS f h p pa q a = h ++ (⟨#[]⟩ : ByteArray) from by unfold textM textS; rw [if_pos f3, if_pos f3, HPB.out]; exact ⟨rfl, rfl⟩)
        have hc1 : ¬ (9223372036854775807 < h.size + ((⟨#[]⟩ : ByteArray)).size) := by omega
        have f3b : (f == 3) = true := beq_iff_eq.2 f3
        have f2b : (f == 2) = false := beq_eq_false_iff_ne.2 (by omega)
        clear f3
        go_upto_region 17 with fail
        have HZ2 := HZ.out
        rw [HT.out.1, HT.out.2] at HZ2
        have HZ3 := Lib.hid HZ2
        have hSS := HT.out.2
        clear HZ2 HZ HT
        generalize (h ++ (⟨#[]⟩ : ByteArray) : ByteArray) = S at *
        have HSS := Lib.hid hSS
        clear hSS
        go_wp2_with fail
        refine (rparse_any (⟨#[67, 79, 78, 78, 69, 67, 84]⟩) S _).mono ?_
        rintro o W3 ⟨rfl, H3⟩
        have HB3 := HB.out.chg H3.out (by simp)
        have HC3 := HC.out.trans H3.out (by simp)
        clear c0 c1 c2 c3 c4 c5
        obtain ⟨f2, h2, p2, pa2, q2, a2, hform⟩ := parseF_form (⟨#[67, 79, 78, 78, 69, 67, 84]⟩) S (ixOf S)
        rw [hform]
        obtain ⟨e2, he2⟩ : ∃ e2, (parseF (⟨#[67, 79, 78, 78, 69, 67, 84]⟩) S (ixOf S)).2 = e2 := ⟨_, rfl⟩
        rw [he2]
        have HT : Hid (z = true ↔ (tgt f2 h2 p2 pa2 q2 a2 = tgt f h p pa q a ∧ e2 = 0)) := Lib.hid (by
          rw [← HZ3.out, ← hform, ← he2]
          exact Prod.ext_iff)
        have hn := run_neq23 f2 f p2 p h2 h pa2 pa q2 q a2 a
        have heq := Lib.hid (eqT_iff f2 f p2 p h2 h pa2 pa q2 q a2 a)
        have hg := guard23
        have HB4 : Blk (W3.alloc (.cells #[.int .i64 f2, .string h2, .int .i64 p2, .string pa2, .string q2, .bool a2] 23)) b (tgt f h p pa q a) 23 := HB3.alloc _
        have HC4 := Lib.hid (HC3.alloc (.cells #[.int .i64 f2, .string h2, .int .i64 p2, .string pa2, .string q2, .bool a2] 23))
        clear hform he2 HB3 HC3
        unfold tgt
        have c0 := HB4.cell 0 _ rfl
        have c1 := HB4.cell 1 _ rfl
        have c2 := HB4.cell 2 _ rfl
        have c3 := HB4.cell 3 _ rfl
        have c4 := HB4.cell 4 _ rfl
        have c5 := HB4.cell 5 _ rfl
        clear HB4
        generalize eqT f2 f p2 p h2 h pa2 pa q2 q a2 a = z2 at *
        by_cases k1 : e2 = 0
        · subst k1
          cases z2
          · have HF := Lib.hid (show z = false from by
              rw [← Bool.not_eq_true, HT.out, ← heq.out]
              simp)
            go_wp2
            go_ret2
            rw [HSS.out, HF.out]
            exact ⟨rfl, HC4.out⟩
          · have HF := Lib.hid (show z = true from HT.out.2 ⟨heq.out.1 rfl, rfl⟩)
            go_wp2
            go_ret2
            rw [HSS.out, HF.out]
            exact ⟨rfl, HC4.out⟩
        · have HF := Lib.hid (show z = false from by
            rw [← Bool.not_eq_true, HT.out]
            exact fun h => k1 h.2)
          have k1b : (e2 == 0) = false := beq_eq_false_iff_ne.2 k1
          go_wp2
          go_ret2
          rw [HSS.out, HF.out]
          exact ⟨rfl, HC4.out⟩
      · have f3b : (f == 3) = false := beq_eq_false_iff_ne.2 f3
        by_cases f4 : f = 4
        · have HT := Lib.hid (show textM f = ⟨#[79, 80, 84, 73, 79, 78, 83]⟩ ∧ textS f h p pa q a = ⟨#[42]⟩ from by unfold textM textS; rw [if_neg f3, if_neg f3, if_pos f4, if_pos f4]; exact ⟨rfl, rfl⟩)
          have f4b : (f == 4) = true := beq_iff_eq.2 f4
          have f2b : (f == 2) = false := beq_eq_false_iff_ne.2 (by omega)
          clear f3 f4
          go_upto_region 17 with fail
          have HZ2 := HZ.out
          rw [HT.out.1, HT.out.2] at HZ2
          have HZ3 := Lib.hid HZ2
          have hSS := HT.out.2
          clear HZ2 HZ HT
          generalize (⟨#[42]⟩ : ByteArray) = S at *
          have HSS := Lib.hid hSS
          clear hSS
          go_wp2_with fail
          refine (rparse_any (⟨#[79, 80, 84, 73, 79, 78, 83]⟩) S _).mono ?_
          rintro o W3 ⟨rfl, H3⟩
          have HB3 := HB.out.chg H3.out (by simp)
          have HC3 := HC.out.trans H3.out (by simp)
          clear c0 c1 c2 c3 c4 c5
          obtain ⟨f2, h2, p2, pa2, q2, a2, hform⟩ := parseF_form (⟨#[79, 80, 84, 73, 79, 78, 83]⟩) S (ixOf S)
          rw [hform]
          obtain ⟨e2, he2⟩ : ∃ e2, (parseF (⟨#[79, 80, 84, 73, 79, 78, 83]⟩) S (ixOf S)).2 = e2 := ⟨_, rfl⟩
          rw [he2]
          have HT : Hid (z = true ↔ (tgt f2 h2 p2 pa2 q2 a2 = tgt f h p pa q a ∧ e2 = 0)) := Lib.hid (by
            rw [← HZ3.out, ← hform, ← he2]
            exact Prod.ext_iff)
          have hn := run_neq23 f2 f p2 p h2 h pa2 pa q2 q a2 a
          have heq := Lib.hid (eqT_iff f2 f p2 p h2 h pa2 pa q2 q a2 a)
          have hg := guard23
          have HB4 : Blk (W3.alloc (.cells #[.int .i64 f2, .string h2, .int .i64 p2, .string pa2, .string q2, .bool a2] 23)) b (tgt f h p pa q a) 23 := HB3.alloc _
          have HC4 := Lib.hid (HC3.alloc (.cells #[.int .i64 f2, .string h2, .int .i64 p2, .string pa2, .string q2, .bool a2] 23))
          clear hform he2 HB3 HC3
          unfold tgt
          have c0 := HB4.cell 0 _ rfl
          have c1 := HB4.cell 1 _ rfl
          have c2 := HB4.cell 2 _ rfl
          have c3 := HB4.cell 3 _ rfl
          have c4 := HB4.cell 4 _ rfl
          have c5 := HB4.cell 5 _ rfl
          clear HB4
          generalize eqT f2 f p2 p h2 h pa2 pa q2 q a2 a = z2 at *
          by_cases k1 : e2 = 0
          · subst k1
            cases z2
            · have HF := Lib.hid (show z = false from by
                rw [← Bool.not_eq_true, HT.out, ← heq.out]
                simp)
              go_wp2
              go_ret2
              rw [HSS.out, HF.out]
              exact ⟨rfl, HC4.out⟩
            · have HF := Lib.hid (show z = true from HT.out.2 ⟨heq.out.1 rfl, rfl⟩)
              go_wp2
              go_ret2
              rw [HSS.out, HF.out]
              exact ⟨rfl, HC4.out⟩
          · have HF := Lib.hid (show z = false from by
              rw [← Bool.not_eq_true, HT.out]
              exact fun h => k1 h.2)
            have k1b : (e2 == 0) = false := beq_eq_false_iff_ne.2 k1
            go_wp2
            go_ret2
            rw [HSS.out, HF.out]
            exact ⟨rfl, HC4.out⟩
        · have f4b : (f == 4) = false := beq_eq_false_iff_ne.2 f4
          by_cases f2 : f = 2
          · have HT := Lib.hid (show textM f = ⟨#[71, 69, 84]⟩ ∧ textS f h p pa q a = (⟨#[104, 116, 116, 112, 58, 47, 47]⟩ ++ h ++ (⟨#[]⟩ : ByteArray)) ++ AB from by unfold textM textS; rw [if_neg f3, if_neg f3, if_neg f4, if_neg f4, if_pos f2, HPB.out, HAB.out]; exact ⟨rfl, rfl⟩)
            have f2b : (f == 2) = true := beq_iff_eq.2 f2
            have hc1 : ¬ (9223372036854775807 < (⟨#[104, 116, 116, 112, 58, 47, 47]⟩ : ByteArray).size + h.size) := by show ¬ (9223372036854775807 < 7 + h.size); omega
            have hc2 : ¬ (9223372036854775807 < (⟨#[104, 116, 116, 112, 58, 47, 47]⟩ ++ h : ByteArray).size + ((⟨#[]⟩ : ByteArray)).size) := by rw [ByteArray.size_append]; show ¬ (9223372036854775807 < 7 + h.size + ((⟨#[]⟩ : ByteArray)).size); omega
            have hc3 : ¬ (9223372036854775807 < (⟨#[104, 116, 116, 112, 58, 47, 47]⟩ ++ h ++ (⟨#[]⟩ : ByteArray) : ByteArray).size + (AB).size) := by rw [ByteArray.size_append, ByteArray.size_append]; show ¬ (9223372036854775807 < 7 + h.size + ((⟨#[]⟩ : ByteArray)).size + (AB).size); omega
            clear f3 f4 f2
            go_upto_region 17 with fail
            have HZ2 := HZ.out
            rw [HT.out.1, HT.out.2] at HZ2
            have HZ3 := Lib.hid HZ2
            have hSS := HT.out.2
            clear HZ2 HZ HT
            generalize ((⟨#[104, 116, 116, 112, 58, 47, 47]⟩ ++ h ++ (⟨#[]⟩ : ByteArray)) ++ AB : ByteArray) = S at *
            have HSS := Lib.hid hSS
            clear hSS
            go_wp2_with fail
            refine (rparse_any (⟨#[71, 69, 84]⟩) S _).mono ?_
            rintro o W3 ⟨rfl, H3⟩
            have HB3 := HB.out.chg H3.out (by simp)
            have HC3 := HC.out.trans H3.out (by simp)
            clear c0 c1 c2 c3 c4 c5
            obtain ⟨f2, h2, p2, pa2, q2, a2, hform⟩ := parseF_form (⟨#[71, 69, 84]⟩) S (ixOf S)
            rw [hform]
            obtain ⟨e2, he2⟩ : ∃ e2, (parseF (⟨#[71, 69, 84]⟩) S (ixOf S)).2 = e2 := ⟨_, rfl⟩
            rw [he2]
            have HT : Hid (z = true ↔ (tgt f2 h2 p2 pa2 q2 a2 = tgt f h p pa q a ∧ e2 = 0)) := Lib.hid (by
              rw [← HZ3.out, ← hform, ← he2]
              exact Prod.ext_iff)
            have hn := run_neq23 f2 f p2 p h2 h pa2 pa q2 q a2 a
            have heq := Lib.hid (eqT_iff f2 f p2 p h2 h pa2 pa q2 q a2 a)
            have hg := guard23
            have HB4 : Blk (W3.alloc (.cells #[.int .i64 f2, .string h2, .int .i64 p2, .string pa2, .string q2, .bool a2] 23)) b (tgt f h p pa q a) 23 := HB3.alloc _
            have HC4 := Lib.hid (HC3.alloc (.cells #[.int .i64 f2, .string h2, .int .i64 p2, .string pa2, .string q2, .bool a2] 23))
            clear hform he2 HB3 HC3
            unfold tgt
            have c0 := HB4.cell 0 _ rfl
            have c1 := HB4.cell 1 _ rfl
            have c2 := HB4.cell 2 _ rfl
            have c3 := HB4.cell 3 _ rfl
            have c4 := HB4.cell 4 _ rfl
            have c5 := HB4.cell 5 _ rfl
            clear HB4
            generalize eqT f2 f p2 p h2 h pa2 pa q2 q a2 a = z2 at *
            by_cases k1 : e2 = 0
            · subst k1
              cases z2
              · have HF := Lib.hid (show z = false from by
                  rw [← Bool.not_eq_true, HT.out, ← heq.out]
                  simp)
                go_wp2
                go_ret2
                rw [HSS.out, HF.out]
                exact ⟨rfl, HC4.out⟩
              · have HF := Lib.hid (show z = true from HT.out.2 ⟨heq.out.1 rfl, rfl⟩)
                go_wp2
                go_ret2
                rw [HSS.out, HF.out]
                exact ⟨rfl, HC4.out⟩
            · have HF := Lib.hid (show z = false from by
                rw [← Bool.not_eq_true, HT.out]
                exact fun h => k1 h.2)
              have k1b : (e2 == 0) = false := beq_eq_false_iff_ne.2 k1
              go_wp2
              go_ret2
              rw [HSS.out, HF.out]
              exact ⟨rfl, HC4.out⟩
          · have f2b : (f == 2) = false := beq_eq_false_iff_ne.2 f2
            have HT := Lib.hid (show textM f = ⟨#[71, 69, 84]⟩ ∧ textS f h p pa q a = AB from by unfold textM textS; rw [if_neg f3, if_neg f3, if_neg f4, if_neg f4, if_neg f2, HAB.out]; exact ⟨rfl, rfl⟩)
            clear f3 f4 f2
            go_upto_region 17 with fail
            have HZ2 := HZ.out
            rw [HT.out.1, HT.out.2] at HZ2
            have HZ3 := Lib.hid HZ2
            have hSS := HT.out.2
            clear HZ2 HZ HT
            generalize AB = S at *
            have HSS := Lib.hid hSS
            clear hSS
            go_wp2_with fail
            refine (rparse_any (⟨#[71, 69, 84]⟩) S _).mono ?_
            rintro o W3 ⟨rfl, H3⟩
            have HB3 := HB.out.chg H3.out (by simp)
            have HC3 := HC.out.trans H3.out (by simp)
            clear c0 c1 c2 c3 c4 c5
            obtain ⟨f2, h2, p2, pa2, q2, a2, hform⟩ := parseF_form (⟨#[71, 69, 84]⟩) S (ixOf S)
            rw [hform]
            obtain ⟨e2, he2⟩ : ∃ e2, (parseF (⟨#[71, 69, 84]⟩) S (ixOf S)).2 = e2 := ⟨_, rfl⟩
            rw [he2]
            have HT : Hid (z = true ↔ (tgt f2 h2 p2 pa2 q2 a2 = tgt f h p pa q a ∧ e2 = 0)) := Lib.hid (by
              rw [← HZ3.out, ← hform, ← he2]
              exact Prod.ext_iff)
            have hn := run_neq23 f2 f p2 p h2 h pa2 pa q2 q a2 a
            have heq := Lib.hid (eqT_iff f2 f p2 p h2 h pa2 pa q2 q a2 a)
            have hg := guard23
            have HB4 : Blk (W3.alloc (.cells #[.int .i64 f2, .string h2, .int .i64 p2, .string pa2, .string q2, .bool a2] 23)) b (tgt f h p pa q a) 23 := HB3.alloc _
            have HC4 := Lib.hid (HC3.alloc (.cells #[.int .i64 f2, .string h2, .int .i64 p2, .string pa2, .string q2, .bool a2] 23))
            clear hform he2 HB3 HC3
            unfold tgt
            have c0 := HB4.cell 0 _ rfl
            have c1 := HB4.cell 1 _ rfl
            have c2 := HB4.cell 2 _ rfl
            have c3 := HB4.cell 3 _ rfl
            have c4 := HB4.cell 4 _ rfl
            have c5 := HB4.cell 5 _ rfl
            clear HB4
            generalize eqT f2 f p2 p h2 h pa2 pa q2 q a2 a = z2 at *
            by_cases k1 : e2 = 0
            · subst k1
              cases z2
              · have HF := Lib.hid (show z = false from by
                  rw [← Bool.not_eq_true, HT.out, ← heq.out]
                  simp)
                go_wp2
                go_ret2
                rw [HSS.out, HF.out]
                exact ⟨rfl, HC4.out⟩
              · have HF := Lib.hid (show z = true from HT.out.2 ⟨heq.out.1 rfl, rfl⟩)
                go_wp2
                go_ret2
                rw [HSS.out, HF.out]
                exact ⟨rfl, HC4.out⟩
            · have HF := Lib.hid (show z = false from by
                rw [← Bool.not_eq_true, HT.out]
                exact fun h => k1 h.2)
              have k1b : (e2 == 0) = false := beq_eq_false_iff_ne.2 k1
              go_wp2
              go_ret2
              rw [HSS.out, HF.out]
              exact ⟨rfl, HC4.out⟩
end Go.Proofs.YtoinhenekeogiaaGreatDoor
