/- The walk of HostsWell: a host whose attempts end well. -/
import Derived.Test.YteaepadamhmknaaHE
namespace Go.Proofs.Yteaepadamhmknaa
open Go.RowKit
set_option linter.unusedVariables false
/-- The first host is neither ejected nor marked sick. -/
def Safe (hs : List Ho) : Prop := ∃ x t, hs = x :: t ∧ x.out = false ∧ x.sick = false
theorem Safe.rst {L : Int} {hs : List Ho} (h : Safe hs) : Safe (hs.map (Ho.rst L)) := by
  obtain ⟨x, t, rfl, h1, h2⟩ := h
  refine ⟨x.rst L, t.map (Ho.rst L), rfl, ?_, ?_⟩
  · unfold Ho.rst; split <;> simp [h1]
  · unfold Ho.rst; split <;> simp [h2]
theorem Safe.set {hs : List Ho} (h : Safe hs) (i : Nat) (y : Ho) (hy : i = 0 → y.out = false ∧ y.sick = false) : Safe (hs.set i y) := by
  obtain ⟨x, t, rfl, h1, h2⟩ := h
  cases i with
  | zero => exact ⟨y, t, rfl, (hy rfl).1, (hy rfl).2⟩
  | succ i => exact ⟨x, t.set i y, rfl, h1, h2⟩
theorem Safe.until {hs : List Ho} (h : Safe hs) : untilV hs 0 = (0, false) := by
  obtain ⟨x, t, rfl, h1, h2⟩ := h
  simp [untilV, h1]
theorem Safe.use {hs : List Ho} (h : Safe hs) : ∃ t, useI hs 0 = 0 :: t := by
  obtain ⟨x, t, rfl, h1, h2⟩ := h
  exact ⟨useI t 1, by simp [useI, h1, h2]⟩
/-- A set after a step. -/
def Aft (w0 : World) (b g : Nat) (fails base long share : Int) (len : Nat) (N : Int) (w : World) : Prop :=
  ∃ L hs, Hst 64 69 w b g fails base long share L hs ∧ Chg [b, g] w0 w ∧ 0 ≤ L ∧ L ≤ 4611686018427387904 ∧ Fine N hs ∧ hs.length = len ∧ Safe hs
theorem well_step (b g : Nat) (fails base long share last now host : Int) (ok : Bool) (N : Int) (hs : List Ho) (w : World) (h : Hst 64 69 w b g fails base long share last hs) (hg : Good hs.length fails base long share) (l0 : 0 ≤ last) (l1 : last ≤ 4611686018427387904) (hf : Fine N hs) (hN : N ≤ 6000000000000) (hsafe : Safe hs) (hok : host = 0 → ok = true) :
    Calls Try.prog 14 #[.pointer (some ⟨b, 0, none⟩), .int .i64 now, .int .i64 host, .bool ok] w fun e w' => ∃ x er, e = .returned (.tuple #[.bool x, .int .i64 er]) ∧ Hid (Aft w b g fails base long share hs.length (N + 1) w') ∧ (x = true → host ≠ 0) := by
  by_cases hbad : now < 0 ∨ 4611686018427387904 < now
  · refine (result_bad (some ⟨b, 0, none⟩) now host ok hbad w).mono ?_
    rintro e w' ⟨rfl, rfl⟩
    exact ⟨_, _, rfl, ⟨last, hs, h, Chg.refl _ _, l0, l1, hf.mono (by omega), rfl, hsafe⟩, by simp⟩
  have n0 : 0 ≤ now := by omega
  have n1 : now ≤ 4611686018427387904 := by omega
  by_cases hh : host < 0 ∨ (hs.length : Int) ≤ host
  · refine (result_none b g fails base long share last now host ok hs w h n0 n1 hh).mono ?_
    rintro e w' ⟨rfl, rfl⟩
    exact ⟨_, _, rfl, ⟨last, hs, h, Chg.refl _ _, l0, l1, hf.mono (by omega), rfl, hsafe⟩, by simp⟩
  obtain ⟨L, hL, k0, k1⟩ := lift last now l0 l1 n0 n1
  obtain ⟨i, rfl⟩ : ∃ i : Nat, host = i := ⟨host.toNat, by omega⟩
  obtain ⟨x, hx⟩ : ∃ x, (hs.map (Ho.rst L))[i]? = some x := ⟨_, List.getElem?_eq_getElem (by simp; omega)⟩
  have hfx := hf.rst.get hx
  obtain ⟨r0, r1, t0, t1⟩ := hfx
  obtain ⟨y, z, hy⟩ : ∃ y z, res fails base long share L (hs.map (Ho.rst L)) x ok = (y, z) := ⟨_, _, rfl⟩
  refine (result_any b g fails base long share last now L ok hs _ rfl w h hg n0 n1 hL k0 k1 i x y z hx r0 (by omega) t0 (by omega) hy).mono ?_
  rintro e w' ⟨rfl, HQ⟩
  have key : i = 0 → y.out = false ∧ y.sick = false ∧ z = false := by
    rintro rfl
    obtain rfl := hok rfl
    obtain ⟨x', t, e1, e2, e3⟩ := hsafe.rst (L := L)
    rw [e1] at hx
    obtain rfl : x' = x := by simpa using hx
    unfold res at hy
    rw [if_neg (by simp [e2]), if_pos rfl] at hy
    injection hy with q1 q2
    subst q1 q2
    exact ⟨rfl, e3, rfl⟩
  refine ⟨_, _, rfl, ⟨L, _, HQ.out.1, HQ.out.2, k0, k1, (hf.mono (by omega)).rst.set i (res_fine hy ⟨r0, r1, t0, t1⟩), by simp, hsafe.rst.set i y (fun hi => ⟨(key hi).1, (key hi).2.1⟩)⟩, ?_⟩
  rintro rfl hi
  have := (key (by omega)).2.2
  cases this
theorem safe_fresh (m : Nat) (h : 1 ≤ m) : Safe (List.replicate m fresh) := by
  obtain ⟨j, rfl⟩ : ∃ j, m = j + 1 := ⟨m - 1, by omega⟩
  exact ⟨fresh, List.replicate j fresh, by simp [List.replicate_succ], rfl, rfl⟩
set_option maxHeartbeats 8000000 in
set_option maxRecDepth 100000 in
theorem hostsWell_walk (w : World) (num fails base long share : Int) (w1 : (Lit.int .i64 num).wf = true) (w2 : (Lit.int .i64 fails).wf = true) (w3 : (Lit.int .i64 base).wf = true) (w4 : (Lit.int .i64 long).wf = true) (w5 : (Lit.int .i64 share).wf = true)
    (a : Option Addr) (n cap : Nat) (f : Nat → Nat → Int) (hf : Flat w a n 3 f) (hr : n * 24 ≤ 140737488351232) (hn : n ≤ 9223372036854775807) :
    Calls Try.prog 5 #[.agg #[.int .i64 num, .int .i64 fails, .int .i64 base, .int .i64 long, .int .i64 share], .slice a n cap] w fun e w' => e = .returned (.bool true) ∧ Below w.heap.size w w' := by
  have HF := Lib.hid hf
  clear hf w1 w2 w3 w4 w5
  by_cases hg : Good num fails base long share
  · obtain ⟨m, rfl⟩ : ∃ m : Nat, num = m := ⟨num.toNat, by have := hg.1; omega⟩
    go_enter Try.func5, Try.ntmps5
    go_wp2_with fail
    refine (new_ok m fails base long share _ hg).mono ?_
    rintro e w1 ⟨b1, g1, rfl, hb1, hg1, hst1, hch1⟩
    have HG := Lib.hid hg
    have HN := Lib.hid (show Aft (w.alloc (.cells #[.int .i64 m, .int .i64 fails, .int .i64 base, .int .i64 long, .int .i64 share] 23)) b1 g1 fails base long share m 0 w1 from
      ⟨0, _, hst1, hch1.mono (by simp), by omega, by omega, fine_fresh m, by simp, safe_fresh m (by have := hg.1; omega)⟩)
    have HNEW := Lib.hid (show ∀ i, i ∈ [b1, g1] → (w.alloc (.cells #[.int .i64 m, .int .i64 fails, .int .i64 base, .int .i64 long, .int .i64 share] 23)).heap.size ≤ i from by
      intro i hi
      simp only [List.mem_cons, List.not_mem_nil, or_false] at hi
      omega)
    have HFA := Lib.hid ((Chg.refl [] w).alloc (.cells #[.int .i64 m, .int .i64 fails, .int .i64 base, .int .i64 long, .int .i64 share] 23))
    have HBA := Lib.hid (fun (w' : World) (h : Below (w.alloc (.cells #[.int .i64 m, .int .i64 fails, .int .i64 base, .int .i64 long, .int .i64 share] 23)).heap.size (w.alloc (.cells #[.int .i64 m, .int .i64 fails, .int .i64 base, .int .i64 long, .int .i64 share] 23)) w') => alloc_below w _ h)
    clear hb1 hg1 hst1 hch1 hg
    generalize w.alloc (.cells #[.int .i64 m, .int .i64 fails, .int .i64 base, .int .i64 long, .int .i64 share] 23) = wA at *
    go_wp2_with fail
    go_loopw [42] (fun i wr => ∃ (k : Nat), k ≤ n ∧ i = .int .i64 k ∧ Hid (Aft wA b1 g1 fails base long share m k wr)) (fun i _ => n - (intOf i).toNat)
    case atStart => exact ⟨0, by omega, rfl, HN⟩
    case round =>
      clear HN w1
      obtain ⟨k, hk, rfl, HT0⟩ := hrel
      obtain ⟨L, hs, ht, hch, l0, l1, hfi, hlen, hsf⟩ := HT0.out
      have HT := Lib.hid (And.intro ht hch)
      have HFI := Lib.hid hfi
      have HLEN := Lib.hid hlen
      have HSF := Lib.hid hsf
      clear HT0 ht hfi hlen hch hsf
      have HGL := Lib.hid (show Good hs.length fails base long share by rw [HLEN.out]; exact HG.out)
      by_cases hlt : k < n
      · obtain ⟨b, o, rfl, hbl, hx⟩ := HF.out.2 (by omega)
        have f0 := hx k 0 hlt (by omega)
        have f1 := hx k 1 hlt (by omega)
        have f2 := hx k 2 hlt (by omega)
        clear hx
        generalize f k 0 = kd at *
        generalize f k 1 = mo at *
        generalize f k 2 = ho at *
        have s0 : wr.cell? ⟨b, o + k * 3, none⟩ = some (.int .i64 kd) := (HT.out.2.fresh HNEW.out).cell (HFA.out.cell f0 (by simp)) (by simp)
        have s1 : wr.cell? ⟨b, o + k * 3 + 1, none⟩ = some (.int .i64 mo) := (HT.out.2.fresh HNEW.out).cell (HFA.out.cell f1 (by simp)) (by simp)
        have s2 : wr.cell? ⟨b, o + k * 3 + 2, none⟩ = some (.int .i64 ho) := (HT.out.2.fresh HNEW.out).cell (HFA.out.cell f2 (by simp)) (by simp)
        clear f0 f1 f2
        have hk2 : (k : Int) ≤ 6000000000000 := by omega
        have HP := Lib.hid (And.intro (HT.out.1.frame ((Chg.refl [] wr).alloc (.cells #[.int .i64 kd, .int .i64 mo, .int .i64 ho] 32)) (by simp) (by simp)) (HT.out.2.alloc (.cells #[.int .i64 kd, .int .i64 mo, .int .i64 ho] 32)))
        have HS := Lib.hid (Blk.new wr [.int .i64 kd, .int .i64 mo, .int .i64 ho] 32)
        have PN := Lib.hid (show wr.heap.size ∉ [b1, g1] by
          have y1 := HT.out.1.num.lt
          have y2 := Blk.lt HT.out.1.recs
          simp
          omega)
        by_cases kk : kd = 0
        · subst kk
          go_wp2_with fail
          (refine (well_step b1 g1 fails base long share L mo ho _ k hs _ HP.out.1 HGL.out l0 l1 HFI.out hk2 HSF.out (fun _ => rfl)).mono ?_)
          rintro e w3 ⟨x, er, rfl, HQ, hxh⟩
          have HX := Lib.hid hxh
          clear hxh
          obtain ⟨L2, hs2, hst2, hch2, l2, l3, hfi2, hlen2, hsf2⟩ := HQ.out
          have c2 := (HS.out.chg hch2 PN.out).cell 2 _ rfl
          have h16 : hs2.length ≤ 16 := by
            have := HGL.out.2.1
            omega
          have HT2 := Lib.hid hst2
          have HAF := Lib.hid (show Aft wA b1 g1 fails base long share m (k + 1 : Nat) w3 from ⟨L2, hs2, hst2, HP.out.2.trans hch2 (fun i hi _ => hi), l2, l3, hfi2, hlen2.trans HLEN.out, hsf2⟩)
          have HU := Lib.hid hsf2.until
          clear HQ hst2 hch2 hfi2 hlen2 hsf2
          cases x
          · go_wp2_with (first | (go_at_call 15; (with_reducible refine (until_any b1 g1 fails base long share L2 hs2 _ HT2.out h16 0 0 false HU.out).mono ?_); rintro e w' ⟨rfl, rfl⟩))
            go_roundw
            case rel => exact ⟨k + 1, by omega, by go_num, HAF⟩
            case measure => simp [intOf]; omega
          · first
            | exact absurd rfl (HX.out rfl)
            | have hnb : (ho == 0) = false := beq_eq_false_iff_ne.2 (HX.out rfl)
              go_wp2_with (first | (go_at_call 15; (with_reducible refine (until_any b1 g1 fails base long share L2 hs2 _ HT2.out h16 0 0 false HU.out).mono ?_); rintro e w' ⟨rfl, rfl⟩))
              go_roundw
              case rel => exact ⟨k + 1, by omega, by go_num, HAF⟩
              case measure => simp [intOf]; omega
        have kk2 : (kd == 0) = false := beq_eq_false_iff_ne.2 kk
        by_cases hh : ho = 0
        · subst hh
          go_wp2_with fail
          (refine (well_step b1 g1 fails base long share L mo 0 _ k hs _ HP.out.1 HGL.out l0 l1 HFI.out hk2 HSF.out (fun _ => rfl)).mono ?_)
          rintro e w3 ⟨x, er, rfl, HQ, hxh⟩
          have HX := Lib.hid hxh
          clear hxh
          obtain ⟨L2, hs2, hst2, hch2, l2, l3, hfi2, hlen2, hsf2⟩ := HQ.out
          have c2 := (HS.out.chg hch2 PN.out).cell 2 _ rfl
          have h16 : hs2.length ≤ 16 := by
            have := HGL.out.2.1
            omega
          have HT2 := Lib.hid hst2
          have HAF := Lib.hid (show Aft wA b1 g1 fails base long share m (k + 1 : Nat) w3 from ⟨L2, hs2, hst2, HP.out.2.trans hch2 (fun i hi _ => hi), l2, l3, hfi2, hlen2.trans HLEN.out, hsf2⟩)
          have HU := Lib.hid hsf2.until
          clear HQ hst2 hch2 hfi2 hlen2 hsf2
          cases x
          · go_wp2_with (first | (go_at_call 15; (with_reducible refine (until_any b1 g1 fails base long share L2 hs2 _ HT2.out h16 0 0 false HU.out).mono ?_); rintro e w' ⟨rfl, rfl⟩))
            go_roundw
            case rel => exact ⟨k + 1, by omega, by go_num, HAF⟩
            case measure => simp [intOf]; omega
          · first
            | exact absurd rfl (HX.out rfl)
            | have hnb : (ho == 0) = false := beq_eq_false_iff_ne.2 (HX.out rfl)
              go_wp2_with (first | (go_at_call 15; (with_reducible refine (until_any b1 g1 fails base long share L2 hs2 _ HT2.out h16 0 0 false HU.out).mono ?_); rintro e w' ⟨rfl, rfl⟩))
              go_roundw
              case rel => exact ⟨k + 1, by omega, by go_num, HAF⟩
              case measure => simp [intOf]; omega
        have hh2 : (ho == 0) = false := beq_eq_false_iff_ne.2 hh
        have HH := Lib.hid hh
        clear hh
        go_wp2_with fail
        (refine (well_step b1 g1 fails base long share L mo ho _ k hs _ HP.out.1 HGL.out l0 l1 HFI.out hk2 HSF.out (fun h => absurd h HH.out)).mono ?_)
        rintro e w3 ⟨x, er, rfl, HQ, hxh⟩
        have HX := Lib.hid hxh
        clear hxh
        obtain ⟨L2, hs2, hst2, hch2, l2, l3, hfi2, hlen2, hsf2⟩ := HQ.out
        have c2 := (HS.out.chg hch2 PN.out).cell 2 _ rfl
        have h16 : hs2.length ≤ 16 := by
          have := HGL.out.2.1
          omega
        have HT2 := Lib.hid hst2
        have HAF := Lib.hid (show Aft wA b1 g1 fails base long share m (k + 1 : Nat) w3 from ⟨L2, hs2, hst2, HP.out.2.trans hch2 (fun i hi _ => hi), l2, l3, hfi2, hlen2.trans HLEN.out, hsf2⟩)
        have HU := Lib.hid hsf2.until
        clear HQ hst2 hch2 hfi2 hlen2 hsf2
        cases x
        · go_wp2_with (first | (go_at_call 15; (with_reducible refine (until_any b1 g1 fails base long share L2 hs2 _ HT2.out h16 0 0 false HU.out).mono ?_); rintro e w' ⟨rfl, rfl⟩))
          go_roundw
          case rel => exact ⟨k + 1, by omega, by go_num, HAF⟩
          case measure => simp [intOf]; omega
        · first
          | exact absurd rfl (HX.out rfl)
          | have hnb : (ho == 0) = false := beq_eq_false_iff_ne.2 (HX.out rfl)
            go_wp2_with (first | (go_at_call 15; (with_reducible refine (until_any b1 g1 fails base long share L2 hs2 _ HT2.out h16 0 0 false HU.out).mono ?_); rintro e w' ⟨rfl, rfl⟩))
            go_roundw
            case rel => exact ⟨k + 1, by omega, by go_num, HAF⟩
            case measure => simp [intOf]; omega
      · go_wp2_with fail
        refine (usable_any b1 g1 fails base long share L 0 L hs _ HT.out.1 (by have := HGL.out.2.1; omega) (by omega) (by omega) (.inr ⟨rfl, l0⟩)).mono ?_
        rintro e w4 ⟨v1, rfl, ho1, hf1, hst4, hch4⟩
        obtain ⟨t, ht⟩ := HSF.out.rst (L := L) |>.use
        rw [ht] at ho1
        have hne : t.length ≤ 16 := by
          have h1 := useI_len (hs.map (Ho.rst L)) 0
          rw [ht] at h1
          have := HGL.out.2.1
          simp at h1
          omega
        obtain ⟨q, cq, rfl, hcell⟩ := ho1.cell (i := 0) (by simp)
        have cc : w4.cell? ⟨q, 0, none⟩ = some (.int .i64 0) := hcell 0 (by simp)
        have HC4 := Lib.hid (HT.out.2.trans hch4 (fun i hi _ => hi))
        clear ho1 hf1 hst4 hch4 hcell ht
        simp only [List.length_cons]
        have hp : (0 : Int) < ((t.length + 1 : Nat) : Int) := by omega
        go_wp2_with fail
        (refine (speaks18_any _).mono ?_)
        rintro e w3 ⟨rfl, HQ⟩
        go_wp2_with fail
        go_ret
        exact ⟨rfl, HBA.out _ ((HC4.out.fresh HNEW.out).trans HQ.out (by simp)).below⟩
  · have hb1 := Lib.hid (fun w => new_bad num fails base long share hg w)
    clear hg
    go_enter Try.func5, Try.ntmps5
    go_wp2_with (first | (go_at_call 12; (with_reducible refine (hb1.out _).mono ?_); rintro e w' ⟨rfl, rfl⟩))
    (refine (speaks18_any _).mono ?_)
    rintro e w3 ⟨rfl, HQ⟩
    go_wp2_with fail
    go_ret
    exact ⟨rfl, alloc_below _ _ HQ.out.below⟩
end Go.Proofs.Yteaepadamhmknaa
