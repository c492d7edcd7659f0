/- Layer 6: the reference's Parse, whole; what is taken is taken alike; a target's text. -/
import Derived.Test.YtoinhenekeogiaaGreatDoorTD
import Derived.Test.YtoinhenekeogiaaGreatDoorUA
import Derived.Lib.ItoaLen
import Derived.Laws.StructEq
namespace Go.Proofs.YtoinhenekeogiaaGreatDoor
open Go.RowKit Go.ChangeShapes Go.WideShapes
set_option linter.unusedVariables false

/-- Where the first of / and ? stands behind http://. -/
def ixOf (s : ByteArray) : Int := Lib.indexAny (s.extract 7 s.size).data.toList [47, 63]
theorem rparse_any (m s : ByteArray) (w : World) :
    Calls Tryz.prog 10 #[.string m, .string s] w fun o w' => o = .returned (.tuple #[.agg (parseF m s (ixOf s)).1.toArray, .int .i64 (parseF m s (ixOf s)).2]) ∧ Hid (Chg [] w w') := by
  unfold parseF
  by_cases h : 8192 < s.size
  · rw [if_pos h]
    exact rparse_long m s w h
  have h' : s.size ≤ 8192 := by omega
  simp only [if_neg h]
  cases k : (m.toList == [67, 79, 78, 78, 69, 67, 84])
  · simp only [Bool.false_eq_true, if_false]
    cases k2 : (s.toList == [42])
    · simp only [Bool.false_eq_true, if_false]
      cases k3 : Lib.hasPrefix s.data.toList [47]
      · simp only [Bool.false_eq_true, if_false]
        cases k4 : isHttp s
        · simp only [Bool.false_eq_true, if_false]
          exact rparse_other m s w h' k k2 k3 k4
        · simp only [if_true]
          exact rparse_http m s w h' k k2 k3 k4 _ rfl
      · simp only [if_true]
        exact rparse_slash m s w h' k k2 k3
    · simp only [if_true]
      refine (rparse_star m s w h' k k2 _ rfl).mono ?_
      rintro o w' ⟨rfl, H⟩
      refine ⟨?_, H⟩
      cases (m.toList == [79, 80, 84, 73, 79, 78, 83]) <;> rfl
  · simp only [if_true]
    exact rparse_conn m s w h' k
theorem parse_same {m s : ByteArray} {v : Int} (hv : IxOK (s.extract 7 s.size).data.toList v) (h : (parseF m s v).2 = 0) : v = ixOf s := by
  have hs := parse_safe hv h
  refine hv.2.2 (.inr fun b hb => ?_)
  rw [data_ext] at hb
  have := hs b (List.mem_of_mem_drop (List.mem_of_mem_take hb))
  unfold okB at this
  omega
/-- Taken, with just this target. -/
def takes (m s : ByteArray) (vs : List Value) : Prop := parseF m s (ixOf s) = (vs, 0)
theorem takes_any {m s : ByteArray} {v : Int} (hv : IxOK (s.extract 7 s.size).data.toList v) (vs : List Value) : parseF m s v = (vs, 0) ↔ takes m s vs := by
  unfold takes
  constructor
  · intro h
    rw [← parse_same hv (by rw [h])]
    exact h
  · intro h
    have hs := parse_safe (ixok_any _) (show (parseF m s (ixOf s)).2 = 0 by rw [h])
    have : v = ixOf s := hv.2.2 (.inr fun b hb => by
      rw [data_ext] at hb
      have := hs b (List.mem_of_mem_drop (List.mem_of_mem_take hb))
      unfold okB at this
      omega)
    rw [this]
    exact h
def portB (p : Int) : ByteArray := if 0 ≤ p then ⟨#[58]⟩ ++ ⟨(Lib.itoa p).toArray⟩ else ⟨#[]⟩
def askB (pa q : ByteArray) (a : Bool) : ByteArray := if a then pa ++ (⟨#[63]⟩ ++ q) else pa
def textM (f : Int) : ByteArray := if f = 3 then ⟨#[67, 79, 78, 78, 69, 67, 84]⟩ else if f = 4 then ⟨#[79, 80, 84, 73, 79, 78, 83]⟩ else ⟨#[71, 69, 84]⟩
def textS (f : Int) (h : ByteArray) (p : Int) (pa q : ByteArray) (a : Bool) : ByteArray :=
  if f = 3 then h ++ portB p else if f = 4 then ⟨#[42]⟩ else if f = 2 then (⟨#[104, 116, 116, 112, 58, 47, 47]⟩ ++ h ++ portB p) ++ askB pa q a else askB pa q a
theorem grow_chg (w : World) (n : Nat) (os : Array Obj) : Chg [] w (Sort.grow (w.drewN n) os) :=
  (drewN_chg w n).trans (F' := []) ⟨rfl, rfl, rfl, by rw [Sort.size_grow]; omega, fun k hk _ => Sort.heap_grow_old _ _ hk⟩ (by simp)
theorem itoa_any (p : Int) (w : World) (hp : p ≤ 9223372036854775807) (h0 : 0 ≤ p) (hE : Hid (Env w)) :
    Calls Tryz.prog 9 #[.int .i64 p] w fun e w' => e = .returned (.string ⟨(Lib.itoa p).toArray⟩) ∧ Hid (Chg [] w w') := by
  refine (Tryz.strconv_Itoa p (by omega) hp w hE.out.2.2).mono ?_
  rintro e w' ⟨rfl, k, os, rfl⟩
  exact ⟨rfl, Lib.hid (grow_chg _ _ _)⟩
theorem portB_len (p : Int) (hp : p ≤ 9223372036854775807) : (portB p).size ≤ 22 := by
  unfold portB
  split
  · rename_i h0
    have := Lib.itoa_length_le p (by omega) hp
    rw [ByteArray.size_append]
    show 1 + (Lib.itoa p).toArray.size ≤ 22
    rw [List.size_toArray]
    omega
  · decide
theorem askB_len (pa q : ByteArray) (a : Bool) : (askB pa q a).size ≤ pa.size + q.size + 1 := by
  unfold askB
  split
  · rw [ByteArray.size_append, ByteArray.size_append]
    show pa.size + (1 + q.size) ≤ _
    omega
  · omega
set_option maxHeartbeats 8000000 in
set_option maxRecDepth 100000 in
theorem text_any (f : Int) (h : ByteArray) (p : Int) (pa q : ByteArray) (a : Bool) (w : World) (hE : Hid (Env w)) (hp : p ≤ 9223372036854775807) (hh : h.size ≤ 1048576) (hpa : pa.size ≤ 1048576) (hq : q.size ≤ 1048576) :
    Calls Tryz.prog 8 #[.agg (tgt f h p pa q a).toArray] w fun o w' => o = .returned (.tuple #[.string (textM f), .string (textS f h p pa q a)]) ∧ Hid (Chg [] w w') := by
  have HB0 := Lib.hid (Blk.new w (tgt f h p pa q a) 23)
  have HC0 := Lib.hid ((Chg.refl [] w).alloc (.cells (tgt f h p pa q a).toArray 23))
  have hpl := portB_len p hp
  change Calls Tryz.prog 8 #[.agg #[.int .i64 f, .string h, .int .i64 p, .string pa, .string q, .bool a]] w _
  by_cases p0 : 0 ≤ p
  · go_enter Tryz.func8, Tryz.ntmps8
    go_wp2_with fail
    have HB1 := HB0.out
    have HC1 := HC0.out
    change Blk (w.alloc (.cells #[.int .i64 f, .string h, .int .i64 p, .string pa, .string q, .bool a] 23)) _ _ _ at HB1
    change Chg [] w (w.alloc (.cells #[.int .i64 f, .string h, .int .i64 p, .string pa, .string q, .bool a] 23)) at HC1
    generalize w.alloc (.cells #[.int .i64 f, .string h, .int .i64 p, .string pa, .string q, .bool a] 23) = W1 at HB1 HC1 ⊢
    generalize w.heap.size = b at HB1 ⊢
    refine (itoa_any p _ hp p0 (Lib.hid (hE.out.chg HC1))).mono ?_
    rintro o W2 ⟨rfl, H2⟩
    have HB := Lib.hid (HB1.chg H2.out (by simp))
    have HC := Lib.hid (HC1.trans H2.out (by simp))
    clear HB1 HC1
    have hpb : portB p = ⟨#[58]⟩ ++ ⟨(Lib.itoa p).toArray⟩ := by unfold portB; rw [if_pos p0]
    rw [hpb] at hpl
    have HPB := Lib.hid hpb
    have hk : ¬ (9223372036854775807 < (⟨#[58]⟩ : ByteArray).size + (⟨(Lib.itoa p).toArray⟩ : ByteArray).size) := by
      rw [ByteArray.size_append] at hpl
      have : (⟨#[58]⟩ : ByteArray).size = 1 := rfl
      omega
    generalize (⟨(Lib.itoa p).toArray⟩ : ByteArray) = IT at *
    clear hpb
    go_upto_region 4 with fail
    generalize (⟨#[58]⟩ ++ IT : ByteArray) = PB at *
    cases a
    · have HAB : Hid (askB pa q false = pa) := Lib.hid rfl
      have c0 := HB.out.cell 0 _ rfl
      have c1 := HB.out.cell 1 _ rfl
      have c3 := HB.out.cell 3 _ rfl
      have c4 := HB.out.cell 4 _ rfl
      have c5 := HB.out.cell 5 _ rfl
      go_upto_region 7 with fail
      by_cases f3 : f = 3
      · have HT := Lib.hid (show textM f = ⟨#[67, 79, 78, 78, 69, 67, 84]⟩ ∧ textS f h p pa q false = h ++ PB from by unfold textM textS; rw [if_pos f3, if_pos f3, HPB.out]; exact ⟨rfl, rfl⟩)
        have hc1 : ¬ (9223372036854775807 < h.size + (PB).size) := by omega
        have f3b : (f == 3) = true := beq_iff_eq.2 f3
        clear f3
        go_upto_region 9 with fail
        go_region
        go_wp2
        rw [HT.out.1, HT.out.2]
        go_ret2
        exact ⟨rfl, HC.out.drew⟩
      · have f3b : (f == 3) = false := beq_eq_false_iff_ne.2 f3
        by_cases f4 : f = 4
        · have HT := Lib.hid (show textM f = ⟨#[79, 80, 84, 73, 79, 78, 83]⟩ ∧ textS f h p pa q false = ⟨#[42]⟩ from by unfold textM textS; rw [if_neg f3, if_neg f3, if_pos f4, if_pos f4]; exact ⟨rfl, rfl⟩)
          have f4b : (f == 4) = true := beq_iff_eq.2 f4
          clear f3 f4
          go_wp2
          rw [HT.out.1, HT.out.2]
          go_ret2
          exact ⟨rfl, HC.out⟩
        · have f4b : (f == 4) = false := beq_eq_false_iff_ne.2 f4
          by_cases f2 : f = 2
          · have HT := Lib.hid (show textM f = ⟨#[71, 69, 84]⟩ ∧ textS f h p pa q false = (⟨#[104, 116, 116, 112, 58, 47, 47]⟩ ++ h ++ PB) ++ pa from by unfold textM textS; rw [if_neg f3, if_neg f3, if_neg f4, if_neg f4, if_pos f2, HPB.out, HAB.out]; exact ⟨rfl, rfl⟩)
            have f2b : (f == 2) = true := beq_iff_eq.2 f2
            have hc1 : ¬ (9223372036854775807 < (⟨#[104, 116, 116, 112, 58, 47, 47]⟩ : ByteArray).size + h.size) := by show ¬ (9223372036854775807 < 7 + h.size); omega
            have hc2 : ¬ (9223372036854775807 < (⟨#[104, 116, 116, 112, 58, 47, 47]⟩ ++ h : ByteArray).size + (PB).size) := by rw [ByteArray.size_append]; show ¬ (9223372036854775807 < 7 + h.size + (PB).size); omega
            have hc3 : ¬ (9223372036854775807 < (⟨#[104, 116, 116, 112, 58, 47, 47]⟩ ++ h ++ PB : ByteArray).size + (pa).size) := by rw [ByteArray.size_append, ByteArray.size_append]; show ¬ (9223372036854775807 < 7 + h.size + (PB).size + (pa).size); omega
            clear f3 f4 f2
            go_wp2
            rw [HT.out.1, HT.out.2]
            go_ret2
            exact ⟨rfl, HC.out⟩
          · have f2b : (f == 2) = false := beq_eq_false_iff_ne.2 f2
            have HT := Lib.hid (show textM f = ⟨#[71, 69, 84]⟩ ∧ textS f h p pa q false = pa from by unfold textM textS; rw [if_neg f3, if_neg f3, if_neg f4, if_neg f4, if_neg f2, HAB.out]; exact ⟨rfl, rfl⟩)
            clear f3 f4 f2
            go_wp2
            rw [HT.out.1, HT.out.2]
            go_ret2
            exact ⟨rfl, HC.out⟩
    · have HAB : Hid (askB pa q true = pa ++ (⟨#[63]⟩ ++ q)) := Lib.hid rfl
      have hal := askB_len pa q true
      have hk1 : ¬ (9223372036854775807 < (⟨#[63]⟩ : ByteArray).size + q.size) := by show ¬ (9223372036854775807 < 1 + q.size); omega
      have hk2 : ¬ (9223372036854775807 < pa.size + (⟨#[63]⟩ ++ q : ByteArray).size) := by rw [ByteArray.size_append]; show ¬ (9223372036854775807 < pa.size + (1 + q.size)); omega
      have c0 := HB.out.cell 0 _ rfl
      have c1 := HB.out.cell 1 _ rfl
      have c3 := HB.out.cell 3 _ rfl
      have c4 := HB.out.cell 4 _ rfl
      have c5 := HB.out.cell 5 _ rfl
      go_upto_region 7 with fail
      rw [HAB.out] at hal
      generalize pa ++ (⟨#[63]⟩ ++ q) = AB at *
      by_cases f3 : f = 3
      · have HT := Lib.hid (show textM f = ⟨#[67, 79, 78, 78, 69, 67, 84]⟩ ∧ textS f h p pa q true = h ++ PB from by unfold textM textS; rw [if_pos f3, if_pos f3, HPB.out]; exact ⟨rfl, rfl⟩)
        have hc1 : ¬ (9223372036854775807 < h.size + (PB).size) := by omega
        have f3b : (f == 3) = true := beq_iff_eq.2 f3
        clear f3
        go_upto_region 9 with fail
        go_region
        go_wp2
        rw [HT.out.1, HT.out.2]
        go_ret2
        exact ⟨rfl, HC.out.drew⟩
      · have f3b : (f == 3) = false := beq_eq_false_iff_ne.2 f3
        by_cases f4 : f = 4
        · have HT := Lib.hid (show textM f = ⟨#[79, 80, 84, 73, 79, 78, 83]⟩ ∧ textS f h p pa q true = ⟨#[42]⟩ from by unfold textM textS; rw [if_neg f3, if_neg f3, if_pos f4, if_pos f4]; exact ⟨rfl, rfl⟩)
          have f4b : (f == 4) = true := beq_iff_eq.2 f4
          clear f3 f4
          go_wp2
          rw [HT.out.1, HT.out.2]
          go_ret2
          exact ⟨rfl, HC.out⟩
        · have f4b : (f == 4) = false := beq_eq_false_iff_ne.2 f4
          by_cases f2 : f = 2
          · have HT := Lib.hid (show textM f = ⟨#[71, 69, 84]⟩ ∧ textS f h p pa q true = (⟨#[104, 116, 116, 112, 58, 47, 47]⟩ ++ h ++ PB) ++ AB from by unfold textM textS; rw [if_neg f3, if_neg f3, if_neg f4, if_neg f4, if_pos f2, HPB.out, HAB.out]; exact ⟨rfl, rfl⟩)
            have f2b : (f == 2) = true := beq_iff_eq.2 f2
            have hc1 : ¬ (9223372036854775807 < (⟨#[104, 116, 116, 112, 58, 47, 47]⟩ : ByteArray).size + h.size) := by show ¬ (9223372036854775807 < 7 + h.size); omega
            have hc2 : ¬ (9223372036854775807 < (⟨#[104, 116, 116, 112, 58, 47, 47]⟩ ++ h : ByteArray).size + (PB).size) := by rw [ByteArray.size_append]; show ¬ (9223372036854775807 < 7 + h.size + (PB).size); omega
            have hc3 : ¬ (9223372036854775807 < (⟨#[104, 116, 116, 112, 58, 47, 47]⟩ ++ h ++ PB : ByteArray).size + (AB).size) := by rw [ByteArray.size_append, ByteArray.size_append]; show ¬ (9223372036854775807 < 7 + h.size + (PB).size + (AB).size); omega
            clear f3 f4 f2
            go_wp2
            rw [HT.out.1, HT.out.2]
            go_ret2
            exact ⟨rfl, HC.out⟩
          · have f2b : (f == 2) = false := beq_eq_false_iff_ne.2 f2
            have HT := Lib.hid (show textM f = ⟨#[71, 69, 84]⟩ ∧ textS f h p pa q true = AB from by unfold textM textS; rw [if_neg f3, if_neg f3, if_neg f4, if_neg f4, if_neg f2, HAB.out]; exact ⟨rfl, rfl⟩)
            clear f3 f4 f2
            go_wp2
            rw [HT.out.1, HT.out.2]
            go_ret2
            exact ⟨rfl, HC.out⟩
  · have hpb : portB p = ⟨#[]⟩ := by unfold portB; rw [if_neg p0]
    have HPB := Lib.hid hpb
    have hpl : (⟨#[]⟩ : ByteArray).size ≤ 22 := by decide
    clear hpb
    go_enter Tryz.func8, Tryz.ntmps8
    go_upto_region 4 with fail
    have HB1 := HB0.out
    have HC1 := HC0.out
    change Blk (w.alloc (.cells #[.int .i64 f, .string h, .int .i64 p, .string pa, .string q, .bool a] 23)) _ _ _ at HB1
    change Chg [] w (w.alloc (.cells #[.int .i64 f, .string h, .int .i64 p, .string pa, .string q, .bool a] 23)) at HC1
    generalize w.alloc (.cells #[.int .i64 f, .string h, .int .i64 p, .string pa, .string q, .bool a] 23) = W2 at HB1 HC1 ⊢
    generalize w.heap.size = b at HB1 ⊢
    have HB := Lib.hid HB1
    have HC := Lib.hid HC1
    clear HB1 HC1
    cases a
    · have HAB : Hid (askB pa q false = pa) := Lib.hid rfl
      have c0 := HB.out.cell 0 _ rfl
      have c1 := HB.out.cell 1 _ rfl
      have c3 := HB.out.cell 3 _ rfl
      have c4 := HB.out.cell 4 _ rfl
      have c5 := HB.out.cell 5 _ rfl
      go_upto_region 7 with fail
      by_cases f3 : f = 3
      · have HT := Lib.hid (show textM f = ⟨#[67, 79, 78, 78, 69, 67, 84]⟩ ∧ textS f h p pa q false = h ++ (⟨#[]⟩ : ByteArray) from by unfold textM textS; rw [if_pos f3, if_pos f3, HPB.out]; exact ⟨rfl, rfl⟩)
        have hc1 : ¬ (9223372036854775807 < h.size + ((⟨#[]⟩ : ByteArray)).size) := by omega
        have f3b : (f == 3) = true := beq_iff_eq.2 f3
        clear f3
        go_upto_region 9 with fail
        go_region
        go_wp2
        rw [HT.out.1, HT.out.2]
        go_ret2
        exact ⟨rfl, HC.out.drew⟩
      · have f3b : (f == 3) = false := beq_eq_false_iff_ne.2 f3
        by_cases f4 : f = 4
        · have HT := Lib.hid (show textM f = ⟨#[79, 80, 84, 73, 79, 78, 83]⟩ ∧ textS f h p pa q false = ⟨#[42]⟩ from by unfold textM textS; rw [if_neg f3, if_neg f3, if_pos f4, if_pos f4]; exact ⟨rfl, rfl⟩)
          have f4b : (f == 4) = true := beq_iff_eq.2 f4
          clear f3 f4
          go_wp2
          rw [HT.out.1, HT.out.2]
          go_ret2
          exact ⟨rfl, HC.out⟩
        · have f4b : (f == 4) = false := beq_eq_false_iff_ne.2 f4
          by_cases f2 : f = 2
          · have HT := Lib.hid (show textM f = ⟨#[71, 69, 84]⟩ ∧ textS f h p pa q false = (⟨#[104, 116, 116, 112, 58, 47, 47]⟩ ++ h ++ (⟨#[]⟩ : ByteArray)) ++ pa from by unfold textM textS; rw [if_neg f3, if_neg f3, if_neg f4, if_neg f4, if_pos f2, HPB.out, HAB.out]; exact ⟨rfl, rfl⟩)
            have f2b : (f == 2) = true := beq_iff_eq.2 f2
            have hc1 : ¬ (9223372036854775807 < (⟨#[104, 116, 116, 112, 58, 47, 47]⟩ : ByteArray).size + h.size) := by show ¬ (9223372036854775807 < 7 + h.size); omega
            have hc2 : ¬ (9223372036854775807 < (⟨#[104, 116, 116, 112, 58, 47, 47]⟩ ++ h : ByteArray).size + ((⟨#[]⟩ : ByteArray)).size) := by rw [ByteArray.size_append]; show ¬ (9223372036854775807 < 7 + h.size + ((⟨#[]⟩ : ByteArray)).size); omega
            have hc3 : ¬ (9223372036854775807 < (⟨#[104, 116, 116, 112, 58, 47, 47]⟩ ++ h ++ (⟨#[]⟩ : ByteArray) : ByteArray).size + (pa).size) := by rw [ByteArray.size_append, ByteArray.size_append]; show ¬ (9223372036854775807 < 7 + h.size + ((⟨#[]⟩ : ByteArray)).size + (pa).size); omega
            clear f3 f4 f2
            go_wp2
            rw [HT.out.1, HT.out.2]
            go_ret2
            exact ⟨rfl, HC.out⟩
          · have f2b : (f == 2) = false := beq_eq_false_iff_ne.2 f2
            have HT := Lib.hid (show textM f = ⟨#[71, 69, 84]⟩ ∧ textS f h p pa q false = pa from by unfold textM textS; rw [if_neg f3, if_neg f3, if_neg f4, if_neg f4, if_neg f2, HAB.out]; exact ⟨rfl, rfl⟩)
            clear f3 f4 f2
            go_wp2
            rw [HT.out.1, HT.out.2]
            go_ret2
            exact ⟨rfl, HC.out⟩
    · have HAB : Hid (askB pa q true = pa ++ (⟨#[63]⟩ ++ q)) := Lib.hid rfl
      have hal := askB_len pa q true
      have hk1 : ¬ (9223372036854775807 < (⟨#[63]⟩ : ByteArray).size + q.size) := by show ¬ (9223372036854775807 < 1 + q.size); omega
      have hk2 : ¬ (9223372036854775807 < pa.size + (⟨#[63]⟩ ++ q : ByteArray).size) := by rw [ByteArray.size_append]; show ¬ (9223372036854775807 < pa.size + (1 + q.size)); omega
      have c0 := HB.out.cell 0 _ rfl
      have c1 := HB.out.cell 1 _ rfl
      have c3 := HB.out.cell 3 _ rfl
      have c4 := HB.out.cell 4 _ rfl
      have c5 := HB.out.cell 5 _ rfl
      go_upto_region 7 with fail
      rw [HAB.out] at hal
      generalize pa ++ (⟨#[63]⟩ ++ q) = AB at *
      by_cases f3 : f = 3
      · have HT := Lib.hid (show textM f = ⟨#[67, 79, 78, 78, 69, 67, 84]⟩ ∧ textS f h p pa q true = h ++ (⟨#[]⟩ : ByteArray) from by unfold textM textS; rw [if_pos f3, if_pos f3, HPB.out]; exact ⟨rfl, rfl⟩)
        have hc1 : ¬ (9223372036854775807 < h.size + ((⟨#[]⟩ : ByteArray)).size) := by omega
        have f3b : (f == 3) = true := beq_iff_eq.2 f3
        clear f3
        go_upto_region 9 with fail
        go_region
        go_wp2
        rw [HT.out.1, HT.out.2]
        go_ret2
        exact ⟨rfl, HC.out.drew⟩
      · have f3b : (f == 3) = false := beq_eq_false_iff_ne.2 f3
        by_cases f4 : f = 4
        · have HT := Lib.hid (show textM f = ⟨#[79, 80, 84, 73, 79, 78, 83]⟩ ∧ textS f h p pa q true = ⟨#[42]⟩ from by unfold textM textS; rw [if_neg f3, if_neg f3, if_pos f4, if_pos f4]; exact ⟨rfl, rfl⟩)
          have f4b : (f == 4) = true := beq_iff_eq.2 f4
          clear f3 f4
          go_wp2
          rw [HT.out.1, HT.out.2]
          go_ret2
          exact ⟨rfl, HC.out⟩
        · have f4b : (f == 4) = false := beq_eq_false_iff_ne.2 f4
          by_cases f2 : f = 2
          · have HT := Lib.hid (show textM f = ⟨#[71, 69, 84]⟩ ∧ textS f h p pa q true = (⟨#[104, 116, 116, 112, 58, 47, 47]⟩ ++ h ++ (⟨#[]⟩ : ByteArray)) ++ AB from by unfold textM textS; rw [if_neg f3, if_neg f3, if_neg f4, if_neg f4, if_pos f2, HPB.out, HAB.out]; exact ⟨rfl, rfl⟩)
            have f2b : (f == 2) = true := beq_iff_eq.2 f2
            have hc1 : ¬ (9223372036854775807 < (⟨#[104, 116, 116, 112, 58, 47, 47]⟩ : ByteArray).size + h.size) := by show ¬ (9223372036854775807 < 7 + h.size); omega
            have hc2 : ¬ (9223372036854775807 < (⟨#[104, 116, 116, 112, 58, 47, 47]⟩ ++ h : ByteArray).size + ((⟨#[]⟩ : ByteArray)).size) := by rw [ByteArray.size_append]; show ¬ (9223372036854775807 < 7 + h.size + ((⟨#[]⟩ : ByteArray)).size); omega
            have hc3 : ¬ (9223372036854775807 < (⟨#[104, 116, 116, 112, 58, 47, 47]⟩ ++ h ++ (⟨#[]⟩ : ByteArray) : ByteArray).size + (AB).size) := by rw [ByteArray.size_append, ByteArray.size_append]; show ¬ (9223372036854775807 < 7 + h.size + ((⟨#[]⟩ : ByteArray)).size + (AB).size); omega
            clear f3 f4 f2
            go_wp2
            rw [HT.out.1, HT.out.2]
            go_ret2
            exact ⟨rfl, HC.out⟩
          · have f2b : (f == 2) = false := beq_eq_false_iff_ne.2 f2
            have HT := Lib.hid (show textM f = ⟨#[71, 69, 84]⟩ ∧ textS f h p pa q true = AB from by unfold textM textS; rw [if_neg f3, if_neg f3, if_neg f4, if_neg f4, if_neg f2, HAB.out]; exact ⟨rfl, rfl⟩)
            clear f3 f4 f2
            go_wp2
            rw [HT.out.1, HT.out.2]
            go_ret2
            exact ⟨rfl, HC.out⟩
end Go.Proofs.YtoinhenekeogiaaGreatDoor
