/- speaks: a host is ejected, and restored. -/
import Derived.Test.YteaepadamhmknaaH8
import Derived.Test.YteaepadamhmknaaHA
namespace Go.Proofs.Yteaepadamhmknaa
open Go.RowKit
set_option linter.unusedVariables false

theorem good0 : Good 2 2 10 30 50 := by unfold Good; omega
theorem one_new (w : World) (x : Int) : Ints (w.alloc (.cells #[.int .i64 x] 3)) .i64 (some ⟨w.heap.size, 0, none⟩) 1 [x] :=
  ⟨rfl, fun _ => ⟨_, rfl, fun i hi => by
    obtain rfl : i = 0 := by omega
    exact (Blk.new w [.int .i64 x] 3).cell 0 _ rfl⟩⟩
set_option maxHeartbeats 2000000 in
theorem speaks18_any (w : World) : Calls Try.prog 13 #[] w fun e w' => e = .returned (.bool true) ∧ Hid (Chg [] w w') := by
  go_enter Try.func13, Try.ntmps13
  go_wp2_with fail
  refine (new_ok 2 2 10 30 50 _ good0).mono ?_
  rintro e w1 ⟨b, g, rfl, hb, hgg, hst, hc⟩
  have HS := Lib.hid hst
  have HC := Lib.hid hc
  have HF := Lib.hid (And.intro hb hgg)
  clear hst hc hb hgg
  go_wp2_with fail
  refine (result_any b g 2 10 30 50 0 0 0 false [fresh, fresh] [fresh, fresh] rfl _ HS.out good0 (by omega) (by omega) (.inr ⟨rfl, by omega⟩) (by omega) (by omega) 0 fresh ⟨false, false, 0, 1, 0⟩ false rfl (by decide) (by decide) (by decide) (by decide) (by rfl)).mono ?_
  rintro e w2 ⟨rfl, H2⟩
  go_wp2_with fail
  refine (result_any b g 2 10 30 50 0 0 0 false [⟨false, false, 0, 1, 0⟩, fresh] [⟨false, false, 0, 1, 0⟩, fresh] rfl _ H2.out.1 good0 (by omega) (by omega) (.inr ⟨rfl, by omega⟩) (by omega) (by omega) 0 ⟨false, false, 0, 1, 0⟩ ⟨false, true, 10, 0, 1⟩ true rfl (by decide) (by decide) (by decide) (by decide) (by rfl)).mono ?_
  rintro e w3 ⟨rfl, H3⟩
  go_wp2_with fail
  refine (usable_any b g 2 10 30 50 0 9 9 [⟨false, true, 10, 0, 1⟩, fresh] _ H3.out.1 (by decide) (by omega) (by omega) (.inl ⟨rfl, by omega⟩)).mono ?_
  rintro e w4 ⟨v1, rfl, ho1, hf1, hst4, hch4⟩
  obtain ⟨A, ca, rfl, hi1, hib⟩ := ho1.ints
  have HI1 := Lib.hid (show Ints w4 .i64 A 1 [1] ∧ ∀ x, A = some x → x.block ∉ [b, g] from ⟨hi1, fun x hx => by
    have q1 := hf1 _ (hib x hx)
    have q2 := H3.out.1.num.lt
    have q3 := Blk.lt H3.out.1.recs
    simp only [List.mem_cons, List.not_mem_nil, or_false]
    omega⟩)
  have H4 := Lib.hid (And.intro hst4 hch4)
  clear ho1 hf1 hst4 hch4 hi1 hib
  go_wp2_with fail
  refine (bring_any b g 2 10 30 50 9 10 10 [⟨false, true, 10, 0, 1⟩, fresh] _ H4.out.1 (by decide) (by omega) (by omega) (.inl ⟨rfl, by omega⟩)).mono ?_
  rintro e w5 ⟨v2, rfl, ho2, hf2, hst5, hch5⟩
  obtain ⟨B, cb, rfl, hi2, -⟩ := ho2.ints
  have HI2 := Lib.hid (show Ints w5 .i64 B 1 [0] from hi2)
  replace HI1 := Lib.hid (HI1.out.1.chg hch5 HI1.out.2)
  have H5 := Lib.hid (And.intro hst5 hch5)
  clear ho2 hf2 hst5 hch5 hi2
  have HCA := Lib.hid ((((HC.out.trans H2.out.2 (by intro i hi hlt; have := HF.out; simp at hi; omega)).trans H3.out.2 (by intro i hi hlt; have := HF.out; simp at hi; omega)).trans H4.out.2 (by intro i hi hlt; have := HF.out; simp at hi; omega)).trans H5.out.2 (by intro i hi hlt; have := HF.out; simp at hi; omega))
  go_wp2_with fail
  refine (ints_same A _ 1 ca 1 [1] _ (HI1.out.chg ((Chg.refl [] w5).alloc _) (by simp)) (one_new _ _) (by omega)).mono ?_
  rintro e w6 ⟨rfl, H6⟩
  have HC6 := Lib.hid (((Chg.refl [] w5).alloc _).trans H6.out (by simp))
  go_wp2_with fail
  refine (ints_same B _ 1 cb 1 [0] _ ((HI2.out.chg HC6.out (by simp)).chg ((Chg.refl [] w6).alloc _) (by simp)) (one_new _ _) (by omega)).mono ?_
  rintro e w7 ⟨rfl, H7⟩
  have HC7 := Lib.hid ((HC6.out.alloc _).trans H7.out (by simp))
  go_wp2_with fail
  refine (ejected_any b g 2 10 30 50 10 _ _ (H5.out.1.frame HC7.out (by simp) (by simp)) (by decide)).mono ?_
  rintro e w8 ⟨rfl, H8⟩
  go_wp2_with fail
  go_ret
  exact ⟨by rfl, (HCA.out.trans HC7.out (by simp)).trans H8.out (by simp)⟩
end Go.Proofs.Yteaepadamhmknaa
