/- The walk of HostsLonger: a host that is ejected again and again. -/
import Derived.Test.YteaepadamhmknaaHG
namespace Go.Proofs.Yteaepadamhmknaa
open Go.RowKit
set_option linter.unusedVariables false
/-- The other hosts: nothing was told of them. -/
def others (m : Nat) : List Ho := List.replicate (m - 1) fresh
theorem rst_fresh (L : Int) : fresh.rst L = fresh := rfl
theorem others_rst (m : Nat) (L : Int) : (others m).map (Ho.rst L) = others m := by
  simp [others, rst_fresh]
theorem others_due (m : Nat) (L : Int) (o : Nat) : dueI L (others m) o = [] := by
  unfold others
  generalize m - 1 = j
  induction j generalizing o with
  | zero => rfl
  | succ j ih => rw [List.replicate_succ]; exact ih (o + 1)
theorem others_out (m : Nat) : nout (others m) = 0 := by simp [nout, others, fresh]
theorem others_len (m : Nat) : (others m).length = m - 1 := by simp [others]
/-- The first host in the midst of its round: k bad ends of fails, or it is ejected till T. -/
def mid (fails til T : Int) (i k : Nat) : Ho := if (k : Int) < fails then ⟨false, false, til, k, i⟩ else ⟨false, true, T, 0, i + 1⟩
theorem mid_rst {fails til T L : Int} {i k : Nat} (h : (k : Int) < fails) : (mid fails til T i k).rst L = mid fails til T i k := by
  unfold mid
  rw [if_pos h]
  rfl
theorem mid_step {fails base long share L til T : Int} {i k m : Nat} (hm : 1 ≤ m) (h : (k : Int) < fails) (hs : 100 ≤ share * (m : Int)) (hT : T = tlate L (min long (base * ((i : Int) + 1)))) :
    res fails base long share L (mid fails til T i k :: others m) (mid fails til T i k) false = (mid fails til T i (k + 1), decide ((k : Int) = fails - 1)) := by
  have hn : nout (mid fails til T i k :: others m) = 0 := by
    have := others_out m
    unfold mid
    rw [if_pos h]
    unfold nout at this ⊢
    rw [List.filter_cons, if_neg (by simp)]
    exact this
  have hl : (mid fails til T i k :: others m).length = m := by rw [List.length_cons, others_len]; omega
  have e1 : mid fails til T i k = ⟨false, false, til, k, i⟩ := if_pos h
  unfold res
  rw [hn, hl]
  by_cases h2 : (k : Int) + 1 < fails
  · have hd : decide ((k : Int) = fails - 1) = false := decide_eq_false (by omega)
    have e2 : mid fails til T i (k + 1) = ⟨false, false, til, k + 1, i⟩ := by
      unfold mid
      rw [if_pos (by push_cast; omega)]
      push_cast
      rfl
    rw [hd, e1, e2, if_neg (by simp), if_neg (by simp), if_pos (.inr (.inl h2))]
  · have hd : decide ((k : Int) = fails - 1) = true := decide_eq_true (by omega)
    have e2 : mid fails til T i (k + 1) = ⟨false, true, T, 0, i + 1⟩ := by
      unfold mid
      rw [if_neg (by push_cast; omega)]
    rw [hd, e1, e2, if_neg (by simp), if_neg (by simp), if_neg (by push_cast; omega), hT]
/-- The set at the head of a round: host 0 was ejected i times. -/
def Lo (w0 : World) (b g : Nat) (fails base long share : Int) (m i : Nat) (t : Int) (w : World) : Prop :=
  ∃ til, Hst 64 69 w b g fails base long share t (⟨false, false, til, 0, i⟩ :: others m) ∧ Chg [b, g] w0 w
set_option maxHeartbeats 8000000 in
set_option maxRecDepth 100000 in
theorem hostsLonger_walk (w : World) (num fails base long share : Int) (w1 : (Lit.int .i64 num).wf = true) (w2 : (Lit.int .i64 fails).wf = true) (w3 : (Lit.int .i64 base).wf = true) (w4 : (Lit.int .i64 long).wf = true) (w5 : (Lit.int .i64 share).wf = true)
    (times : Int) (w6 : (Lit.int .i64 times).wf = true) :
    Calls Try.prog 4 #[.agg #[.int .i64 num, .int .i64 fails, .int .i64 base, .int .i64 long, .int .i64 share], .int .i64 times] w fun e w' => e = .returned (.bool true) ∧ Below w.heap.size w w' := by
  clear w1 w2 w3 w4 w5 w6
  by_cases hg : Good num fails base long share
  · obtain ⟨m, rfl⟩ : ∃ m : Nat, num = m := ⟨num.toNat, by have := hg.1; omega⟩
    have HG := Lib.hid hg
    obtain ⟨g1, g2, g3, g4, g5, g6, g7, g8, g9, ga⟩ := hg
    have hnm : share * (m : Int) ≤ 100 * 16 := Int.mul_le_mul ga g2 (by omega) (by omega)
    have hnz : 0 ≤ share * (m : Int) := Int.mul_nonneg g9 (by omega)
    have hw1 : IntKind.i64.wrap (share * (m : Int)) = share * (m : Int) := IntWalk.i64_in _ (by omega)
    by_cases k1 : fails = 0
    · subst k1
      go_enter Try.func4, Try.ntmps4
      go_wp2_with fail
      refine (new_ok m 0 base long share _ HG.out).mono ?_
      rintro e w1 ⟨b1, g1, rfl, hb1, hg1, hst1, hch1⟩
      have c1 := ((Blk.new w [.int .i64 m, .int .i64 0, .int .i64 base, .int .i64 long, .int .i64 share] 23).chg hch1 (by simp)).cell 1 _ rfl
      have HC := Lib.hid hch1
      clear hb1 hg1 hst1 hch1
      go_wp2_with fail
      (refine (speaks18_any _).mono ?_)
      rintro e w3 ⟨rfl, HQ⟩
      go_wp2_with fail
      go_ret
      exact ⟨rfl, alloc_below w _ (HC.out.trans HQ.out (by simp)).below⟩
    have k1b : (fails == 0) = false := beq_eq_false_iff_ne.2 k1
    by_cases k2 : 100 < fails
    · go_enter Try.func4, Try.ntmps4
      go_wp2_with fail
      refine (new_ok m fails base long share _ HG.out).mono ?_
      rintro e w1 ⟨b1, g1, rfl, hb1, hg1, hst1, hch1⟩
      have c1 := ((Blk.new w [.int .i64 m, .int .i64 fails, .int .i64 base, .int .i64 long, .int .i64 share] 23).chg hch1 (by simp)).cell 1 _ rfl
      have HC := Lib.hid hch1
      clear hb1 hg1 hst1 hch1
      go_wp2_with fail
      (refine (speaks18_any _).mono ?_)
      rintro e w3 ⟨rfl, HQ⟩
      go_wp2_with fail
      go_ret
      exact ⟨rfl, alloc_below w _ (HC.out.trans HQ.out (by simp)).below⟩
    by_cases k3 : share * (m : Int) < 100
    · go_enter Try.func4, Try.ntmps4
      go_wp2_with fail
      refine (new_ok m fails base long share _ HG.out).mono ?_
      rintro e w1 ⟨b1, g1, rfl, hb1, hg1, hst1, hch1⟩
      have hbx := (Blk.new w [.int .i64 m, .int .i64 fails, .int .i64 base, .int .i64 long, .int .i64 share] 23).chg hch1 (by simp)
      have c0 := hbx.cell 0 _ rfl
      have c1 := hbx.cell 1 _ rfl
      have c4 := hbx.cell 4 _ rfl
      have HC := Lib.hid hch1
      clear hb1 hg1 hst1 hch1 hbx
      go_wp2_with fail
      (refine (speaks18_any _).mono ?_)
      rintro e w3 ⟨rfl, HQ⟩
      go_wp2_with fail
      go_ret
      exact ⟨rfl, alloc_below w _ (HC.out.trans HQ.out (by simp)).below⟩
    go_enter Try.func4, Try.ntmps4
    go_wp2_with fail
    refine (new_ok m fails base long share _ HG.out).mono ?_
    rintro e w1 ⟨b1, g1, rfl, hb1, hg1, hst1, hch1⟩
    have hbx := (Blk.new w [.int .i64 m, .int .i64 fails, .int .i64 base, .int .i64 long, .int .i64 share] 23).chg hch1 (by simp)
    have HBX := Lib.hid (Blk.new w [.int .i64 m, .int .i64 fails, .int .i64 base, .int .i64 long, .int .i64 share] 23)
    have c0 := hbx.cell 0 _ rfl
    have c1 := hbx.cell 1 _ rfl
    have c4 := hbx.cell 4 _ rfl
    have hm1 : 1 ≤ m := by omega
    have HN := Lib.hid (show Lo (w.alloc (.cells #[.int .i64 m, .int .i64 fails, .int .i64 base, .int .i64 long, .int .i64 share] 23)) b1 g1 fails base long share m 0 0 w1 from by
      obtain ⟨j, rfl⟩ : ∃ j, m = j + 1 := ⟨m - 1, by omega⟩
      exact ⟨0, hst1, hch1.mono (by simp)⟩)
    have HNEW := Lib.hid (show w.heap.size ∉ [b1, g1] ∧ ∀ i, i ∈ [b1, g1] → (w.alloc (.cells #[.int .i64 m, .int .i64 fails, .int .i64 base, .int .i64 long, .int .i64 share] 23)).heap.size ≤ i from by
      have hsz : (w.alloc (.cells #[.int .i64 m, .int .i64 fails, .int .i64 base, .int .i64 long, .int .i64 share] 23)).heap.size = w.heap.size + 1 := by simp
      refine ⟨?_, fun i hi => ?_⟩
      · simp only [List.mem_cons, List.not_mem_nil, or_false]
        omega
      · simp only [List.mem_cons, List.not_mem_nil, or_false] at hi
        omega)
    have HBA := Lib.hid (fun (w' : World) (h : Below (w.alloc (.cells #[.int .i64 m, .int .i64 fails, .int .i64 base, .int .i64 long, .int .i64 share] 23)).heap.size (w.alloc (.cells #[.int .i64 m, .int .i64 fails, .int .i64 base, .int .i64 long, .int .i64 share] 23)) w') => alloc_below w _ h)
    have k3' : 100 ≤ share * (m : Int) := by omega
    clear hb1 hg1 hst1 hch1 hbx
    generalize w.alloc (.cells #[.int .i64 m, .int .i64 fails, .int .i64 base, .int .i64 long, .int .i64 share] 23) = wA at *
    go_wp2_with fail
    clear c0 c1 c4
    go_loopw [7, 8] (fun nv iv wr => ∃ (i : Nat) (t : Int), i ≤ 20 ∧ iv = .int .i64 i ∧ nv = .int .i64 t ∧ 0 ≤ t ∧ t ≤ (i : Int) * 1000000 ∧ Hid (Lo wA b1 g1 fails base long share m i t wr)) (fun _ iv _ => 20 - (intOf iv).toNat)
    case atStart => exact ⟨0, 0, by omega, rfl, rfl, by omega, by omega, HN⟩
    case round =>
      clear HN w1
      obtain ⟨i, t, hi, rfl, rfl, t0, t1, HT0⟩ := hrel
      by_cases hlt : (i : Int) < times
      · by_cases hi20 : i < 20
        · have hi20' : (i : Int) < 20 := by omega
          obtain ⟨til, hst, hch⟩ := HT0.out
          have hT0 : 1 ≤ min long (base * ((i : Int) + 1)) ∧ min long (base * ((i : Int) + 1)) ≤ 1000000 := by
            have h1 : 1 * 1 ≤ base * ((i : Int) + 1) := Int.mul_le_mul g5 (by omega) (by omega) (by omega)
            omega
          have hbm : base * ((i : Int) + 1) ≤ 1000000 * 21 := Int.mul_le_mul g6 (by omega) (by omega) (by omega)
          have hbz : 0 ≤ base * ((i : Int) + 1) := Int.mul_nonneg (by omega) (by omega)
          have hTT : tlate t (min long (base * ((i : Int) + 1))) = t + min long (base * ((i : Int) + 1)) := by
            unfold tlate
            rw [if_neg (by omega)]
          have HTT := Lib.hid hTT
          have HST := Lib.hid (show Hst 64 69 wr b1 g1 fails base long share t (mid fails til (t + min long (base * ((i : Int) + 1))) i 0 :: others m) by
            unfold mid
            rw [if_pos (by omega)]
            exact hst)
          have HCH := Lib.hid hch
          obtain ⟨d, hd⟩ : ∃ d, d = min long (base * ((i : Int) + 1)) := ⟨_, rfl⟩
          rw [← hd] at HTT HST hT0
          have HD := Lib.hid hd
          clear hst hch HT0 hTT hd
          go_wp2_with fail
          go_loopw [9] (fun kv wx => ∃ k : Nat, kv = .int .i64 k ∧ (k : Int) ≤ fails ∧ Hid (Hst 64 69 wx b1 g1 fails base long share t (mid fails til (t + d) i k :: others m)) ∧ Hid (Chg [b1, g1] wA wx)) (fun kv _ => 100 - (intOf kv).toNat)
          case atStart => exact ⟨0, rfl, g3, HST, HCH⟩
          case round =>
            clear HST HCH
            obtain ⟨k, rfl, hk, HS, HC⟩ := hrel
            have hbx := HBX.out.chg HC.out HNEW.out.1
            have c1 := hbx.cell 1 _ rfl
            have c2 := hbx.cell 2 _ rfl
            have c3 := hbx.cell 3 _ rfl
            have hln : (mid fails til (t + d) i k :: others m).length = m := by rw [List.length_cons, others_len]; omega
            have HLN := Lib.hid hln
            clear hbx hln
            by_cases hkf : (k : Int) < fails
            · have hms := mid_step (base := base) (long := long) (share := share) (L := t) (til := til) (T := t + d) (i := i) (m := m) hm1 hkf k3' (by rw [← HD.out]; exact HTT.out.symm)
              have hmx : mid fails til (t + d) i k = ⟨false, false, til, k, i⟩ := if_pos hkf
              have HMX := Lib.hid hmx
              have hw2 : IntKind.i64.wrap (fails - 1) = fails - 1 := IntWalk.i64_in _ (by omega)
              by_cases hk1 : (k : Int) = fails - 1
              · have hb : ((k : Int) == fails - 1) = true := by simp [hk1]
                rw [decide_eq_true hk1] at hms
                have HMS := Lib.hid hms
                clear hms hmx
                go_wp2_with fail
                refine (result_any b1 g1 fails base long share t t t false _ (mid fails til (t + d) i k :: others m) (by rw [List.map_cons, mid_rst hkf, others_rst]) _ HS.out (by rw [HLN.out]; exact HG.out) t0 (by omega) (.inr ⟨rfl, by omega⟩) t0 (by omega) 0 (mid fails til (t + d) i k) (mid fails til (t + d) i (k + 1)) true rfl (by rw [HMX.out]; dsimp only; omega) (by rw [HMX.out]; dsimp only; omega) (by rw [HMX.out]; dsimp only; omega) (by rw [HMX.out]; dsimp only; omega) HMS.out).mono ?_
                rintro e w4 ⟨rfl, HQ⟩
                have c1 := (HBX.out.chg (HC.out.trans HQ.out.2 (fun i hi _ => hi)) HNEW.out.1).cell 1 _ rfl
                go_wp2_with fail
                go_roundw
                case rel => exact ⟨k + 1, by go_num, by omega, HQ.out.1, HC.out.trans HQ.out.2 (fun i hi _ => hi)⟩
                case measure => simp [intOf]; omega
              · have hb : ((k : Int) == fails - 1) = false := by simp [hk1]
                rw [decide_eq_false hk1] at hms
                have HMS := Lib.hid hms
                have hk4 : (k : Int) < fails - 1 := by omega
                clear hms hmx hk1
                go_wp2_with fail
                refine (result_any b1 g1 fails base long share t t t false _ (mid fails til (t + d) i k :: others m) (by rw [List.map_cons, mid_rst hkf, others_rst]) _ HS.out (by rw [HLN.out]; exact HG.out) t0 (by omega) (.inr ⟨rfl, by omega⟩) t0 (by omega) 0 (mid fails til (t + d) i k) (mid fails til (t + d) i (k + 1)) false rfl (by rw [HMX.out]; dsimp only; omega) (by rw [HMX.out]; dsimp only; omega) (by rw [HMX.out]; dsimp only; omega) (by rw [HMX.out]; dsimp only; omega) HMS.out).mono ?_
                rintro e w4 ⟨rfl, HQ⟩
                have c1 := (HBX.out.chg (HC.out.trans HQ.out.2 (fun i hi _ => hi)) HNEW.out.1).cell 1 _ rfl
                go_wp2_with fail
                go_roundw
                case rel => exact ⟨k + 1, by go_num, by omega, HQ.out.1, HC.out.trans HQ.out.2 (fun i hi _ => hi)⟩
                case measure => simp [intOf]; omega
            · have hmx : mid fails til (t + d) i k = ⟨false, true, t + d, 0, i + 1⟩ := if_neg hkf
              rw [hmx] at HS HLN
              have h16 : (⟨false, true, t + d, 0, (i : Int) + 1⟩ :: others m : List Ho).length ≤ 16 := by rw [HLN.out]; omega
              have HU := Lib.hid (show untilV (⟨false, true, t + d, 0, (i : Int) + 1⟩ :: others m) 0 = (t + d, true) by simp [untilV])
              have HE1 := Lib.hid (show dueI (t + d - 1) (⟨false, true, t + d, 0, (i : Int) + 1⟩ :: others m) 0 = [] by
                unfold dueI
                rw [if_neg (by simp [Ho.due]; omega), others_due])
              have HE2 := Lib.hid (show (⟨false, true, t + d, 0, (i : Int) + 1⟩ :: others m : List Ho).map (Ho.rst (t + d - 1)) = ⟨false, true, t + d, 0, (i : Int) + 1⟩ :: others m by
                rw [List.map_cons, others_rst]
                unfold Ho.rst
                rw [if_neg (by simp [Ho.due]; omega)])
              have HE3 := Lib.hid (show dueI (t + d) (⟨false, true, t + d, 0, (i : Int) + 1⟩ :: others m) 0 = [0] by
                unfold dueI
                rw [if_pos (by simp [Ho.due]), others_due]
                rfl)
              have HE4 := Lib.hid (show (⟨false, true, t + d, 0, (i : Int) + 1⟩ :: others m : List Ho).map (Ho.rst (t + d)) = ⟨false, false, t + d, 0, (i : Int) + 1⟩ :: others m by
                rw [List.map_cons, others_rst]
                unfold Ho.rst
                rw [if_pos (by simp [Ho.due])])
              have hd1 : (long < base * ((i : Int) + 1) ∧ d = long) ∨ (base * ((i : Int) + 1) ≤ long ∧ d = base * ((i : Int) + 1)) := by
                have := HD.out
                omega
              have hw3 : IntKind.i64.wrap (base * ((i : Int) + 1)) = base * ((i : Int) + 1) := IntWalk.i64_in _ (by omega)
              clear HD hmx
              obtain ⟨hd2, hd3⟩ := hT0
              rcases hd1 with ⟨km, hd1⟩ | ⟨km, hd1⟩
              · have hd4 := hd1.symm
                subst hd4
                go_wp2_with (first | (go_at_call 15; (with_reducible refine (until_any b1 g1 fails base long share t _ _ HS.out h16 0 _ _ HU.out).mono ?_); rintro e w' ⟨rfl, rfl⟩))
                refine (bring_any b1 g1 fails base long share t (t + long - 1) (t + long - 1) _ _ HS.out h16 (by omega) (by omega) (by omega)).mono ?_
                rintro e w5 ⟨v1, rfl, ho1, hf1, hst5, hch5⟩
                rw [HE1.out] at ho1
                rw [HE2.out] at hst5
                obtain ⟨A1, ca1, rfl⟩ := ho1.form
                have H5 := Lib.hid (And.intro hst5 hch5)
                clear ho1 hf1 hst5 hch5
                go_wp2_with fail
                refine (bring_any b1 g1 fails base long share (t + long - 1) (t + long) (t + long) _ _ H5.out.1 h16 (by omega) (by omega) (.inl ⟨rfl, by omega⟩)).mono ?_
                rintro e w6 ⟨v2, rfl, ho2, hf2, hst6, hch6⟩
                rw [HE3.out] at ho2
                rw [HE4.out] at hst6
                obtain ⟨B, cb, rfl, hi2, -⟩ := ho2.ints
                have HI2 := Lib.hid hi2
                have H6 := Lib.hid (And.intro hst6 (HC.out.trans (H5.out.2.trans hch6 (fun i hi _ => hi)) (fun i hi _ => hi)))
                clear ho2 hf2 hst6 hch6 hi2
                go_wp2_with fail
                refine (ints_same B _ 1 cb 1 [0] _ (HI2.out.chg ((Chg.refl [] w6).alloc _) (by simp)) (one_new _ _) (by omega)).mono ?_
                rintro e w7 ⟨rfl, H7⟩
                have HC7 := Lib.hid (((Chg.refl [] w6).alloc _).trans H7.out (by simp))
                go_wp2_with fail
                go_roundw
                case rel => exact ⟨i + 1, t + long, by omega, by go_num, rfl, by omega, by push_cast; omega, t + long, by push_cast; exact H6.out.1.frame HC7.out (by simp) (by simp), H6.out.2.trans HC7.out (by simp)⟩
                case measure => simp [intOf]; omega
              · subst hd1
                go_wp2_with (first | (go_at_call 15; (with_reducible refine (until_any b1 g1 fails base long share t _ _ HS.out h16 0 _ _ HU.out).mono ?_); rintro e w' ⟨rfl, rfl⟩))
                refine (bring_any b1 g1 fails base long share t (t + (base * ((i : Int) + 1)) - 1) (t + (base * ((i : Int) + 1)) - 1) _ _ HS.out h16 (by omega) (by omega) (by omega)).mono ?_
                rintro e w5 ⟨v1, rfl, ho1, hf1, hst5, hch5⟩
                rw [HE1.out] at ho1
                rw [HE2.out] at hst5
                obtain ⟨A1, ca1, rfl⟩ := ho1.form
                have H5 := Lib.hid (And.intro hst5 hch5)
                clear ho1 hf1 hst5 hch5
                go_wp2_with fail
                refine (bring_any b1 g1 fails base long share (t + (base * ((i : Int) + 1)) - 1) (t + (base * ((i : Int) + 1))) (t + (base * ((i : Int) + 1))) _ _ H5.out.1 h16 (by omega) (by omega) (.inl ⟨rfl, by omega⟩)).mono ?_
                rintro e w6 ⟨v2, rfl, ho2, hf2, hst6, hch6⟩
                rw [HE3.out] at ho2
                rw [HE4.out] at hst6
                obtain ⟨B, cb, rfl, hi2, -⟩ := ho2.ints
                have HI2 := Lib.hid hi2
                have H6 := Lib.hid (And.intro hst6 (HC.out.trans (H5.out.2.trans hch6 (fun i hi _ => hi)) (fun i hi _ => hi)))
                clear ho2 hf2 hst6 hch6 hi2
                go_wp2_with fail
                refine (ints_same B _ 1 cb 1 [0] _ (HI2.out.chg ((Chg.refl [] w6).alloc _) (by simp)) (one_new _ _) (by omega)).mono ?_
                rintro e w7 ⟨rfl, H7⟩
                have HC7 := Lib.hid (((Chg.refl [] w6).alloc _).trans H7.out (by simp))
                go_wp2_with fail
                go_roundw
                case rel => exact ⟨i + 1, t + (base * ((i : Int) + 1)), by omega, by go_num, rfl, by omega, by push_cast; omega, t + (base * ((i : Int) + 1)), by push_cast; exact H6.out.1.frame HC7.out (by simp) (by simp), H6.out.2.trans HC7.out (by simp)⟩
                case measure => simp [intOf]; omega
        · have hi20' : ¬ (i : Int) < 20 := by omega
          obtain ⟨til, hst, hch⟩ := HT0.out
          have HC := Lib.hid hch
          clear hst hch HT0
          go_wp2_with fail
          (refine (speaks18_any _).mono ?_)
          rintro e w3 ⟨rfl, HQ⟩
          go_wp2_with fail
          go_ret
          exact ⟨rfl, HBA.out _ ((HC.out.fresh HNEW.out.2).trans HQ.out (by simp)).below⟩
      · obtain ⟨til, hst, hch⟩ := HT0.out
        have HC := Lib.hid hch
        clear hst hch HT0
        go_wp2_with fail
        (refine (speaks18_any _).mono ?_)
        rintro e w3 ⟨rfl, HQ⟩
        go_wp2_with fail
        go_ret
        exact ⟨rfl, HBA.out _ ((HC.out.fresh HNEW.out.2).trans HQ.out (by simp)).below⟩
  · have hb1 := Lib.hid (fun w => new_bad num fails base long share hg w)
    clear hg
    go_enter Try.func4, Try.ntmps4
    go_wp2_with (first | (go_at_call 12; (with_reducible refine (hb1.out _).mono ?_); rintro e w' ⟨rfl, rfl⟩))
    (refine (speaks18_any _).mono ?_)
    rintro e w3 ⟨rfl, HQ⟩
    go_wp2_with fail
    go_ret
    exact ⟨rfl, alloc_below _ _ HQ.out.below⟩
end Go.Proofs.Yteaepadamhmknaa
