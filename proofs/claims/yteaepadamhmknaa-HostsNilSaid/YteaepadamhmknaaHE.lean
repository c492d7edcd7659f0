/- The walk of HostsSteps: every step of both sets answers alike. -/
import Derived.Test.YteaepadamhmknaaHC
import Derived.Test.YteaepadamhmknaaHD
import Derived.Test.YteaepadamhmknaaF
namespace Go.Proofs.Yteaepadamhmknaa
open Go.RowKit
set_option linter.unusedVariables false
theorem alloc_below (w : World) (o : Obj) {w' : World} (h : Below (w.alloc o).heap.size (w.alloc o) w') : Below w.heap.size w w' :=
  ((Below.refl w.heap.size w).alloc (Nat.le_refl _) o).trans (h.mono (by simp))
theorem fine_fresh (m : Nat) : Fine 0 (List.replicate m fresh) := fun x hx => by
  obtain rfl := (List.mem_replicate.1 hx).2
  exact ⟨by decide, by decide, by decide, by decide⟩
theorem Chg.fresh {F : List Nat} {a w : World} (h : Chg F a w) (hF : ∀ i, i ∈ F → a.heap.size ≤ i) : Chg [] a w :=
  ⟨h.os, h.tape, h.output, h.size, fun k hk _ => h.block k hk (fun hm => by have := hF k hm; omega)⟩
theorem Two.rebase {w0 w : World} {b1 g1 b2 g2 : Nat} {fails base long share la lb : Int} {ha hb : List Ho} (h : Two w0 b1 g1 b2 g2 fails base long share la ha lb hb w) : Two w b1 g1 b2 g2 fails base long share la ha lb hb w := ⟨h.a, h.b, h.d, Chg.refl _ _⟩
theorem After.join {w0 w1 w : World} {b1 g1 b2 g2 : Nat} {fails base long share : Int} {len : Nat} {N : Int} (h : After w1 b1 g1 b2 g2 fails base long share len N w) (hc : Chg [b1, g1, b2, g2] w0 w1) : After w0 b1 g1 b2 g2 fails base long share len N w := by
  obtain ⟨L, hs, ht, h1⟩ := h
  exact ⟨L, hs, ⟨ht.a, ht.b, ht.d, hc.trans ht.chg (fun i hi _ => hi)⟩, h1⟩
theorem After.still {w0 w1 w : World} {b1 g1 b2 g2 : Nat} {fails base long share : Int} {len : Nat} {N : Int} (h : After w0 b1 g1 b2 g2 fails base long share len N w1) (hc : Chg [] w1 w) : After w0 b1 g1 b2 g2 fails base long share len N w := by
  obtain ⟨L, hs, ht, h1⟩ := h
  exact ⟨L, hs, ht.still hc, h1⟩
set_option maxHeartbeats 8000000 in
set_option maxRecDepth 100000 in
theorem hostsSteps_walk (w : World) (num fails base long share : Int) (w1 : (Lit.int .i64 num).wf = true) (w2 : (Lit.int .i64 fails).wf = true) (w3 : (Lit.int .i64 base).wf = true) (w4 : (Lit.int .i64 long).wf = true) (w5 : (Lit.int .i64 share).wf = true)
    (a : Option Addr) (n cap : Nat) (f : Nat → Nat → Int) (hf : Flat w a n 3 f) (hr : n * 24 ≤ 140737488351232) (hn : n ≤ 9223372036854775807) :
    Calls Try.prog 7 #[.agg #[.int .i64 num, .int .i64 fails, .int .i64 base, .int .i64 long, .int .i64 share], .slice a n cap] w fun e w' => e = .returned (.bool true) ∧ Below w.heap.size w w' := by
  have HF := Lib.hid hf
  clear hf w1 w2 w3 w4 w5
  by_cases hg : Good num fails base long share
  · obtain ⟨m, rfl⟩ : ∃ m : Nat, num = m := ⟨num.toNat, by have := hg.1; omega⟩
    go_enter Try.func7, Try.ntmps7
    go_wp2_with fail
    refine (new_ok m fails base long share _ hg).mono ?_
    rintro e w1 ⟨b1, g1, rfl, hb1, hg1, hst1, hch1⟩
    have HA := Lib.hid ((Blk.new w [.int .i64 m, .int .i64 fails, .int .i64 base, .int .i64 long, .int .i64 share] 23).chg hch1 (by simp))
    have d0 := HA.out.cell 0 _ rfl
    have d1 := HA.out.cell 1 _ rfl
    have d2 := HA.out.cell 2 _ rfl
    have d3 := HA.out.cell 3 _ rfl
    have d4 := HA.out.cell 4 _ rfl
    have HB1 := Lib.hid (And.intro (And.intro hb1 hg1) (And.intro hst1 hch1))
    clear hb1 hg1 hst1 hch1
    go_wp2_with fail
    refine (rnew_ok m fails base long share _ hg).mono ?_
    rintro e w2 ⟨b2, g2, rfl, hb2, hg2, hst2, hch2⟩
    have HG := Lib.hid hg
    have HN := Lib.hid (show After (w.alloc (.cells #[.int .i64 m, .int .i64 fails, .int .i64 base, .int .i64 long, .int .i64 share] 23)) b1 g1 b2 g2 fails base long share m 0 w2 from by
      obtain ⟨⟨hb1, hg1⟩, hst1, hch1⟩ := HB1.out
      have x1 := hst1.num.lt
      have x2 := Blk.lt hst1.recs
      have x3 := hch1.size
      exact ⟨0, _, ⟨hst1.frame hch2 (by simp) (by simp), hst2, ⟨by omega, by omega, by omega, by omega⟩, (hch1.trans hch2 (by simp)).mono (by simp)⟩, by omega, by omega, fine_fresh m, by simp⟩)
    have HNEW := Lib.hid (show ∀ i, i ∈ [b1, g1, b2, g2] → (w.alloc (.cells #[.int .i64 m, .int .i64 fails, .int .i64 base, .int .i64 long, .int .i64 share] 23)).heap.size ≤ i from by
      obtain ⟨⟨hb1, hg1⟩, hst1, hch1⟩ := HB1.out
      have x3 := hch1.size
      intro i hi
      simp only [List.mem_cons, List.not_mem_nil, or_false] at hi
      omega)
    have HFA := Lib.hid ((Chg.refl [] w).alloc (.cells #[.int .i64 m, .int .i64 fails, .int .i64 base, .int .i64 long, .int .i64 share] 23))
    have HBA := Lib.hid (fun (w' : World) (h : Below (w.alloc (.cells #[.int .i64 m, .int .i64 fails, .int .i64 base, .int .i64 long, .int .i64 share] 23)).heap.size (w.alloc (.cells #[.int .i64 m, .int .i64 fails, .int .i64 base, .int .i64 long, .int .i64 share] 23)) w') => alloc_below w _ h)
    clear d0 d1 d2 d3 d4 HA HB1 hb2 hg2 hst2 hch2 hg
    generalize w.alloc (.cells #[.int .i64 m, .int .i64 fails, .int .i64 base, .int .i64 long, .int .i64 share] 23) = wA at *
    clear w1
    go_wp2_with fail
    go_loopw [58] (fun i wr => ∃ (k : Nat), k ≤ n ∧ i = .int .i64 k ∧ Hid (After wA b1 g1 b2 g2 fails base long share m k wr)) (fun i _ => n - (intOf i).toNat)
    case atStart => exact ⟨0, by omega, rfl, HN⟩
    case round =>
      clear HN w2
      obtain ⟨k, hk, rfl, HT0⟩ := hrel
      obtain ⟨L, hs, ht, l0, l1, hfi, hlen⟩ := HT0.out
      have HT := Lib.hid ht
      have HFI := Lib.hid hfi
      have HLEN := Lib.hid hlen
      clear HT0 ht hfi hlen
      by_cases hlt : k < n
      · obtain ⟨b, o, rfl, hbl, hx⟩ := HF.out.2 (by omega)
        have f0 := hx k 0 hlt (by omega)
        have f1 := hx k 1 hlt (by omega)
        have f2 := hx k 2 hlt (by omega)
        clear hx
        generalize f k 0 = kd at *
        generalize f k 1 = mo at *
        generalize f k 2 = ho at *
        have s0 : wr.cell? ⟨b, o + k * 3, none⟩ = some (.int .i64 kd) := (HT.out.chg.fresh HNEW.out).cell (HFA.out.cell f0 (by simp)) (by simp)
        have s1 : wr.cell? ⟨b, o + k * 3 + 1, none⟩ = some (.int .i64 mo) := (HT.out.chg.fresh HNEW.out).cell (HFA.out.cell f1 (by simp)) (by simp)
        have s2 : wr.cell? ⟨b, o + k * 3 + 2, none⟩ = some (.int .i64 ho) := (HT.out.chg.fresh HNEW.out).cell (HFA.out.cell f2 (by simp)) (by simp)
        clear f0 f1 f2
        have HGL := Lib.hid (show Good hs.length fails base long share by rw [HLEN.out]; exact HG.out)
        have hk2 : (k : Int) ≤ 6000000000000 := by omega
        go_wp2_with fail
        have HP := Lib.hid (HT.out.still ((Chg.refl [] wr).alloc (.cells #[.int .i64 kd, .int .i64 mo, .int .i64 ho] 32)))
        have HS := Lib.hid (Blk.new wr [.int .i64 kd, .int .i64 mo, .int .i64 ho] 32)
        have c2 := HS.out.cell 2 _ rfl
        have pn : wr.heap.size ∉ [b1, g1, b2, g2] := by
          have y1 := HT.out.a.num.lt
          have y2 := Blk.lt HT.out.a.recs
          have y3 := HT.out.b.num.lt
          have y4 := Blk.lt HT.out.b.recs
          simp
          omega
        have PN := Lib.hid pn
        clear s0 s1 s2 HT pn c2
        generalize wr.alloc (.cells #[.int .i64 kd, .int .i64 mo, .int .i64 ho] 32) = wb at *
        generalize wr.heap.size = p at *
        (refine (asks_any wb _ b1 g1 b2 g2 fails base long share L hs k kd mo ho HP.out.rebase HGL.out l0 l1 HFI.out hk2).mono ?_)
        rintro e w3 ⟨rfl, HQ⟩
        obtain ⟨L2, hs2, ht2, l2, l3, hfi2, hlen2⟩ := HQ.out
        have c2 := (HS.out.chg ht2.chg PN.out).cell 2 _ rfl
        have HAF := Lib.hid (show After wA b1 g1 b2 g2 fails base long share m (k + 1 : Nat) w3 from After.join ⟨L2, hs2, ht2, l2, l3, hfi2, hlen2.trans HLEN.out⟩ HP.out.chg)
        have h16 : hs2.length ≤ 16 := by
          have := HGL.out.2.1
          omega
        have HT2 := Lib.hid ht2
        obtain ⟨un, ub, hu⟩ : ∃ x y, untilV hs2 ho = (x, y) := ⟨_, _, rfl⟩
        have HU := Lib.hid hu
        clear HQ ht2 hfi2 hlen2 hu
        go_wp2_with (first | (go_at_call 15; (with_reducible refine (until_any b1 g1 fails base long share L2 hs2 _ HT2.out.a h16 ho un ub HU.out).mono ?_); rintro e w' ⟨rfl, rfl⟩) | (go_at_call 24; (with_reducible refine (runtil_any b2 g2 fails base long share L2 hs2 _ HT2.out.b h16 ho un ub HU.out).mono ?_); rintro e w' ⟨rfl, rfl⟩))
        refine (ejected_any b1 g1 fails base long share L2 hs2 _ HT2.out.a h16).mono ?_
        rintro e w4 ⟨rfl, HE1⟩
        go_wp2_with fail
        refine (rejected_any b2 g2 fails base long share L2 hs2 _ (HT2.out.still HE1.out).b h16).mono ?_
        rintro e w5 ⟨rfl, HE2⟩
        go_wp2_with fail
        go_roundw
        case rel => exact ⟨k + 1, by omega, by go_num, (HAF.out.still HE1.out).still HE2.out⟩
        case measure => simp [intOf]; omega
      · go_wp2_with fail
        (refine (speaks18_any _).mono ?_)
        rintro e w3 ⟨rfl, HQ⟩
        go_wp2_with fail
        go_ret
        exact ⟨rfl, HBA.out _ ((HT.out.chg.fresh HNEW.out).trans HQ.out (by simp)).below⟩
  · have hb1 := Lib.hid (fun w => new_bad num fails base long share hg w)
    have hb2 := Lib.hid (fun w => rnew_bad num fails base long share hg w)
    clear hg
    go_enter Try.func7, Try.ntmps7
    go_wp2_with (first | (go_at_call 12; (with_reducible refine (hb1.out _).mono ?_); rintro e w' ⟨rfl, rfl⟩) | (go_at_call 22; (with_reducible refine (hb2.out _).mono ?_); rintro e w' ⟨rfl, rfl⟩))
    (refine (speaks18_any _).mono ?_)
    rintro e w3 ⟨rfl, HQ⟩
    go_wp2_with fail
    go_ret
    exact ⟨rfl, alloc_below _ _ HQ.out.below⟩
end Go.Proofs.Yteaepadamhmknaa
