/- The walk of ProbeWell. -/
import Derived.Test.YteaepadamhmknaaP6
namespace Go.Proofs.Yteaepadamhmknaa
open Go.RowKit
set_option linter.unusedVariables false
theorem idx_low {p : Ho → Bool} {hs : List Ho} {o : Nat} {z : Int} (h : z ∈ idxI p hs o) : (o : Int) ≤ z := by
  obtain ⟨i, x, h1, h2, h3⟩ := idx_mem h
  omega
theorem idx_nodup (p : Ho → Bool) (hs : List Ho) (o : Nat) : (idxI p hs o).Nodup := by
  induction hs generalizing o with
  | nil => simp [idxI]
  | cons y hs ih =>
    unfold idxI
    split
    · rw [List.nodup_cons]
      refine ⟨fun h => ?_, ih (o + 1)⟩
      have := idx_low h
      omega
    · exact ih (o + 1)
/-- The hosts in the midst of a round: those of ds are still to be answered. -/
def Mids (k : Int) (ds : List Int) (hs : List Ho) : Prop := ∀ (i : Nat) (y : Ho), hs[i]? = some y → (((i : Nat) : Int) ∈ ds → y.sick = true ∧ y.row ≤ k ∧ y.times ≤ k) ∧ (((i : Nat) : Int) ∉ ds → y.sick = false ∧ y.row ≤ k + 1 ∧ y.times ≤ k + 1) ∧ y.out = false ∧ 0 ≤ y.til ∧ y.til ≤ 2305843009213693952 ∧ 0 ≤ y.row ∧ 0 ≤ y.times
/-- .. at the head of a round. -/
def Calm (k : Int) (hs : List Ho) : Prop := ∀ (i : Nat) (y : Ho), hs[i]? = some y → y.sick = false ∧ y.row ≤ k ∧ y.times ≤ k ∧ y.out = false ∧ 0 ≤ y.til ∧ y.til ≤ 2305843009213693952 ∧ 0 ≤ y.row ∧ 0 ≤ y.times
theorem Mids.done {k : Int} {hs : List Ho} (h : Mids k [] hs) : Calm (k + 1) hs := by
  intro i y hy
  obtain ⟨-, h2, h3, h4, h5, h6, h7⟩ := h i y hy
  obtain ⟨a, b, c⟩ := h2 (by simp)
  exact ⟨a, b, c, h3, h4, h5, h6, h7⟩
theorem Calm.due {k now every timeout : Int} {hs hs' : List Ho} (h : Calm k hs) (n0 : 0 ≤ now) (n1 : now ≤ 2305843009213693952) (hr : Ran (hit false every timeout now) now hs hs') : Mids k (idxI (hit false every timeout now) hs 0) hs' := by
  intro i y hy
  have hi : i < hs.length := by rw [← hr.1]; exact (List.getElem?_eq_some_iff.1 hy).1
  obtain ⟨x, hx⟩ : ∃ x, hs[i]? = some x := ⟨_, List.getElem?_eq_getElem hi⟩
  obtain ⟨a, b, c, d, e, f, g1, g2⟩ := h i x hx
  have h2 := hr.2 i x hx
  rw [hy] at h2
  injection h2 with h2
  by_cases hp : hit false every timeout now x = true
  · rw [if_pos hp] at h2
    subst h2
    have hm := mem_idx (o := 0) hx hp
    rw [Nat.zero_add] at hm
    exact ⟨fun _ => ⟨rfl, b, c⟩, fun hn => absurd hm hn, d, n0, n1, g1, g2⟩
  · rw [if_neg hp] at h2
    subst h2
    have hm : ((i : Nat) : Int) ∉ idxI (hit false every timeout now) hs 0 := by
      intro hm
      obtain ⟨j, z, h1, h2, h3⟩ := idx_mem hm
      have hij : (i : Int) = (j : Int) := by simpa using h1
      obtain rfl : i = j := by omega
      rw [hx] at h2
      injection h2 with h2
      subst h2
      exact hp h3
    exact ⟨fun hm2 => absurd hm2 hm, fun _ => ⟨a, by omega, by omega⟩, d, e, f, g1, g2⟩
theorem Mids.step {k : Int} {ds : List Int} {hs : List Ho} {i : Nat} {y : Ho} (h : Mids k (((i : Nat) : Int) :: ds) hs) (hn : ((i : Nat) : Int) ∉ ds) (hy : y.sick = false ∧ y.row ≤ k + 1 ∧ y.times ≤ k + 1 ∧ y.out = false ∧ 0 ≤ y.til ∧ y.til ≤ 2305843009213693952 ∧ 0 ≤ y.row ∧ 0 ≤ y.times) : Mids k ds (hs.set i y) := by
  obtain ⟨a, b, c, d, e, f, g1, g2⟩ := hy
  intro j z hz
  rw [List.getElem?_set] at hz
  split at hz
  · rename_i e2
    subst e2
    split at hz
    · injection hz with hz
      subst hz
      exact ⟨fun hm => absurd hm hn, fun _ => ⟨a, b, c⟩, d, e, f, g1, g2⟩
    · cases hz
  · rename_i e2
    obtain ⟨h1, h2, h3⟩ := h j z hz
    refine ⟨fun hm => h1 (List.mem_cons_of_mem _ hm), fun hm => h2 (fun hc => ?_), h3⟩
    simp only [List.mem_cons] at hc
    rcases hc with hc | hc
    · exact e2 (by omega)
    · exact hm hc
theorem Calm.atok {k : Int} {hs : List Ho} (h : Calm k hs) : AtOk hs := by
  intro x hx
  obtain ⟨i, hi⟩ := List.getElem?_of_mem hx
  obtain ⟨a, b, c, d, e, f, g1, g2⟩ := h i x hi
  exact ⟨e, by omega⟩
theorem calm_fresh (m : Nat) : Calm 0 (List.replicate m fresh) := by
  intro i y hy
  obtain rfl := (List.mem_replicate.1 (List.mem_of_getElem? hy)).2
  exact ⟨rfl, by decide, by decide, rfl, by decide, by decide, by decide, by decide⟩
def Wel (w0 : World) (b g : Nat) (every timeout up down : Int) (m : Nat) (now : Int) (k : Int) (w : World) : Prop :=
  ∃ last hs, Hst 83 85 w b g every timeout up down last hs ∧ Chg [b, g] w0 w ∧ last ≤ now ∧ hs.length = m ∧ Calm k hs
set_option maxHeartbeats 16000000 in
set_option maxRecDepth 100000 in
theorem probeWell_walk (w : World) (num : Int) (wn : (Lit.int .i64 num).wf = true) (every timeout up down : Int) (w1 : (Lit.int .i64 every).wf = true) (w2 : (Lit.int .i64 timeout).wf = true) (w3 : (Lit.int .i64 up).wf = true) (w4 : (Lit.int .i64 down).wf = true)
    (a : Option Addr) (n cap : Nat) (zs : List Int) (hr : n * 8 ≤ 140737488351232) (hn : n ≤ 9223372036854775807) (hwf : ∀ n ∈ zs, (Lit.int .i64 n).wf = true) (hs : Ints w .i64 a n zs) :
    Calls Try.prog 11 #[.int .i64 num, .agg #[.int .i64 every, .int .i64 timeout, .int .i64 up, .int .i64 down], .slice a n cap] w fun e w' => e = .returned (.bool true) ∧ Below w.heap.size w w' := by
  have HS0 := Lib.hid hs
  clear hs hwf w1 w2 w3 w4 wn
  by_cases hg : PGood num every timeout up down
  · obtain ⟨m, rfl⟩ : ∃ m : Nat, num = m := ⟨num.toNat, by have := hg.1.1; omega⟩
    go_enter Try.func11, Try.ntmps11
    go_wp2_with fail
    refine (pnew_ok m every timeout up down _ hg).mono ?_
    rintro e w1 ⟨b1, g1, rfl, hb1, hg1, hst1, hch1⟩
    obtain ⟨⟨o0, o1⟩, ⟨e0, e1⟩, ⟨p0, p1⟩, ⟨u0, u1⟩, -⟩ := hg
    have HN := Lib.hid (show Wel (w.alloc (.cells #[.int .i64 every, .int .i64 timeout, .int .i64 up, .int .i64 down] 51)) b1 g1 every timeout up down m 0 0 w1 from
      ⟨0, _, hst1, hch1.mono (by simp), by omega, by simp, calm_fresh m⟩)
    have HNEW := Lib.hid (show ∀ i, i ∈ [b1, g1] → (w.alloc (.cells #[.int .i64 every, .int .i64 timeout, .int .i64 up, .int .i64 down] 51)).heap.size ≤ i from by
      intro i hi
      simp only [List.mem_cons, List.not_mem_nil, or_false] at hi
      omega)
    have HFA := Lib.hid ((Chg.refl [] w).alloc (.cells #[.int .i64 every, .int .i64 timeout, .int .i64 up, .int .i64 down] 51))
    have HBA := Lib.hid (fun (w' : World) (h : Below (w.alloc (.cells #[.int .i64 every, .int .i64 timeout, .int .i64 up, .int .i64 down] 51)).heap.size (w.alloc (.cells #[.int .i64 every, .int .i64 timeout, .int .i64 up, .int .i64 down] 51)) w') => palloc_below w _ h)
    clear hb1 hg1 hst1 hch1
    generalize w.alloc (.cells #[.int .i64 every, .int .i64 timeout, .int .i64 up, .int .i64 down] 51) = wA at *
    go_wp2_with fail
    go_loopw [9, 38] (fun nv iv wr => ∃ (k : Nat) (now : Int), k ≤ n ∧ iv = .int .i64 k ∧ nv = .int .i64 now ∧ 0 ≤ now ∧ now ≤ 1152921504616846976 ∧ Hid (Wel wA b1 g1 every timeout up down m now k wr)) (fun _ iv _ => n - (intOf iv).toNat)
    case atStart => exact ⟨0, 0, by omega, rfl, rfl, by omega, by omega, HN⟩
    case round =>
      clear HN w1
      obtain ⟨k, now, hk, rfl, rfl, n0, n1, HT⟩ := hrel
      obtain ⟨last, hs, ht, hch, l1, hlen, hcalm⟩ := HT.out
      have HST := Lib.hid ht
      have HCH := Lib.hid hch
      have HCALM := Lib.hid hcalm
      have hl16 : hs.length ≤ 16 := by omega
      have HLEN := Lib.hid hlen
      clear ht hch HT hcalm hlen
      by_cases hlt : k < n
      · obtain ⟨p, rfl, hx⟩ := (HS0.out.chg (HFA.out.trans (pChg.fresh HCH.out HNEW.out) (by simp)) (by simp)).2 (by omega)
        have hcell := hx k hlt
        clear hx
        generalize zs.getD k 0 = d at *
        have hk2 : (k : Int) ≤ 20000000000000 := by omega
        go_upto_region 8 with fail
        go_cut [51] (fun s51 wx => ∃ bb : Bool, s51 = .bool bb ∧ Hid (bb = true → 0 ≤ d ∧ d ≤ 10000000 ∧ now < 1152921504606846976) ∧ wx = wr)
        case first =>
          by_cases k1 : 0 ≤ d
          · by_cases k2 : d ≤ 10000000
            · by_cases k3 : now < 1152921504606846976
              · go_wp2_with fail
                go_meet
                exact ⟨true, by simp [*], Lib.hid (fun _ => ⟨k1, k2, k3⟩), rfl⟩
              · go_wp2_with fail
                go_meet
                exact ⟨false, by simp [*], Lib.hid (fun h => Bool.noConfusion h), rfl⟩
            · go_wp2_with fail
              go_meet
              exact ⟨false, by simp [*], Lib.hid (fun h => Bool.noConfusion h), rfl⟩
          · go_wp2_with fail
            go_meet
            exact ⟨false, by simp [*], Lib.hid (fun h => Bool.noConfusion h), rfl⟩
        case rest =>
        obtain ⟨bb, rfl, hbb, rfl⟩ := hcut
        go_upto_if 51 with fail
        go_cut [9] (fun s9 wx => ∃ n2 : Int, s9 = .int .i64 n2 ∧ now ≤ n2 ∧ n2 ≤ 1152921504616846976 ∧ wx = wc)
        case first =>
          cases bb
          · go_wp2_with fail
            go_meet
            exact ⟨now, rfl, by omega, n1, rfl⟩
          · obtain ⟨k1, k2, k3⟩ := hbb.out rfl
            go_wp2_with fail
            go_meet
            exact ⟨now + d, rfl, by omega, by omega, rfl⟩
        case rest =>
        obtain ⟨n2, rfl, q0, q1, rfl⟩ := hcut
        clear hbb
        go_wp2_with fail
        refine (due_any b1 g1 every timeout up down last n2 hs _ HST.out hl16 (by omega) HCALM.out.atok (by omega) (by omega) (by omega)).mono ?_
        rintro e w2 ⟨h2, ⟨v2, rfl, o2, f2⟩, b2, r2⟩
        obtain ⟨A, ca, rfl, hin, hib⟩ := o2.ints
        have HMID := Lib.hid (HCALM.out.due (every := every) (timeout := timeout) (now := n2) (by omega) (by omega) r2)
        have HND := Lib.hid (idx_nodup (hit false every timeout n2) hs 0)
        have HIM := Lib.hid (fun z (hz : z ∈ idxI (hit false every timeout n2) hs 0) => idx_mem hz)
        have hzl := idxI_len (hit false every timeout n2) hs 0
        have HIN := Lib.hid (show Ints w2 .i64 A _ _ ∧ ∀ x, A = some x → x.block ∉ [b1, g1] from ⟨hin, fun x hx => by
          have q1 := f2 _ (hib x hx)
          have q2 := HST.out.num.lt
          have q3 := Blk.lt HST.out.recs
          simp only [List.mem_cons, List.not_mem_nil, or_false]
          omega⟩)
        have B2 := Lib.hid b2
        have HL2 := Lib.hid (r2.1.trans HLEN.out)
        clear o2 f2 b2 r2 hin hib HCALM HST
        generalize idxI (hit false every timeout n2) hs 0 = ys at *
        have HC2 := Lib.hid (HCH.out.trans B2.out.2 (fun i hi _ => hi))
        clear HCH
        go_wp2_with fail
        go_loopw [65] (fun jv wx => ∃ (j : Nat) (hj : List Ho), jv = .int .i64 j ∧ j ≤ ys.length ∧ Hid (Hst 83 85 wx b1 g1 every timeout up down n2 hj) ∧ Hid (Chg [b1, g1] w2 wx) ∧ Hid (hj.length = m) ∧ Hid (Mids k (ys.drop j) hj)) (fun jv _ => ys.length - (intOf jv).toNat)
        case atStart => exact ⟨0, h2, rfl, by omega, B2.out.1, Chg.refl _ _, HL2, Lib.hid (by simpa using HMID.out)⟩
        case round =>
          obtain ⟨j, hj, rfl, hjy, HSJ, HCJ, HLJ, HMJ⟩ := hrel
          by_cases hjl : j < ys.length
          · obtain ⟨xa, rfl, hxc⟩ := (HIN.out.1.chg HCJ.out HIN.out.2).2 (by omega)
            have cz := hxc j hjl
            have hyz : ys.getD j 0 = ys[j] := by rw [List.getD_eq_getElem?_getD, List.getElem?_eq_getElem hjl]; rfl
            obtain ⟨i, x, hz, hx, -⟩ := HIM.out (ys[j]) (List.getElem_mem hjl)
            rw [Nat.zero_add] at hz
            rw [hyz, hz] at cz
            have hi : i < hs.length := (List.getElem?_eq_some_iff.1 hx).1
            obtain ⟨y, hy⟩ : ∃ y, hj[i]? = some y := ⟨_, List.getElem?_eq_getElem (by rw [HLJ.out, ← HLEN.out]; exact hi)⟩
            have hdr : ys.drop j = ((i : Nat) : Int) :: ys.drop (j + 1) := by rw [List.drop_eq_getElem_cons hjl, hz]
            have hnd : ((i : Nat) : Int) ∉ ys.drop (j + 1) := by
              have := HND.out.sublist (List.drop_sublist j ys)
              rw [hdr] at this
              exact (List.nodup_cons.1 this).1
            have hmj := HMJ.out
            rw [hdr] at hmj
            obtain ⟨s1, -, s3, s4, s5, s6, s7⟩ := hmj i y hy
            obtain ⟨t1, t2, t3⟩ := s1 (by simp)
            have hya : ans every up down n2 y true = (⟨false, false, n2 + every, y.row + 1, 0⟩, 0) := by
              unfold ans
              rw [if_pos rfl, if_neg (by rw [s3]; simp), s3]
              unfold tlate
              rw [if_neg (by omega)]
            have HYA := Lib.hid hya
            have HYY := Lib.hid hy
            have HMS := Lib.hid (hmj.step hnd (y := ⟨false, false, n2 + every, y.row + 1, 0⟩) ⟨rfl, by dsimp only; omega, by dsimp only; omega, rfl, by dsimp only; omega, by dsimp only; omega, by dsimp only; omega, by simp⟩)
            have hlj : hj.length = m := HLJ.out
            have hjl2 : (j : Int) < (ys.length : Int) := by omega
            clear hxc hyz hz hx hy hdr hnd hmj s1 hya s3
            go_wp2_with fail
            refine (answer_any b1 g1 every timeout up down n2 n2 true hj _ HSJ.out (by omega) ⟨e0, e1⟩ (by omega) (by omega) (by omega) i y _ _ HYY.out t1 s6 (by omega) s7 (by omega) HYA.out).mono ?_
            rintro e w3 ⟨rfl, B3⟩
            go_wp2_with fail
            refine (healthy_any b1 g1 every timeout up down n2 _ _ B3.out.1 i ⟨false, false, n2 + every, y.row + 1, 0⟩ (by rw [List.getElem?_set_self (by rw [hlj, ← HLEN.out]; exact hi)])).mono ?_
            rintro e w5 ⟨rfl, rfl⟩
            go_wp2_with fail
            go_roundw
            case rel => exact ⟨j + 1, _, by go_num, by omega, B3.out.1, HCJ.out.trans B3.out.2 (fun i hi _ => hi), Lib.hid (by rw [List.length_set]; exact hlj), HMS⟩
            case measure => simp [intOf]; omega
          · have ej : ys.drop j = [] := by rw [List.drop_eq_nil_iff]; omega
            have hmj := HMJ.out
            rw [ej] at hmj
            have HMD := Lib.hid hmj.done
            clear ej hmj
            go_wp2_with fail
            go_roundw
            case rel => exact ⟨k + 1, n2, by omega, by go_num, rfl, by omega, q1, n2, hj, HSJ.out, HC2.out.trans HCJ.out (fun i hi _ => hi), by omega, HLJ.out, by push_cast; exact HMD.out⟩
            case measure => simp [intOf]; omega
      · go_wp2_with fail
        go_loopw [18] (fun hv wx => ∃ j : Nat, hv = .int .i64 j ∧ j ≤ m ∧ wx = wr) (fun hv _ => m - (intOf hv).toNat)
        case atStart => exact ⟨0, rfl, by omega, rfl⟩
        case round =>
          obtain ⟨j, rfl, hj, rfl⟩ := hrel
          by_cases hjm : j < m
          · have hj1 : (j : Int) < (m : Int) := by omega
            have hj2 : (j : Int) < 16 := by omega
            obtain ⟨y, hy⟩ : ∃ y, hs[j]? = some y := ⟨_, List.getElem?_eq_getElem (by rw [HLEN.out]; exact hjm)⟩
            have hyo := (HCALM.out j y hy).2.2.2.1
            have HY := Lib.hid hy
            clear hy
            go_wp2_with fail
            refine (healthy_any b1 g1 every timeout up down last hs _ HST.out j y HY.out).mono ?_
            rintro e w5 ⟨rfl, rfl⟩
            rw [hyo]
            go_wp2_with fail
            go_roundw
            case rel => exact ⟨j + 1, by go_num, by omega, by first | rfl | trivial⟩
            case measure => simp [intOf]; omega
          · have hj1 : ¬ (j : Int) < (m : Int) := by omega
            go_wp2_with fail
            (refine (speaks19_any _).mono ?_)
            rintro e w3 ⟨rfl, HQ⟩
            go_wp2_with fail
            go_ret
            exact ⟨rfl, HBA.out _ ((pChg.fresh HCH.out HNEW.out).trans HQ.out (by simp)).below⟩
  · have hb1 := Lib.hid (fun w => pnew_bad num every timeout up down hg w)
    clear hg
    go_enter Try.func11, Try.ntmps11
    go_wp2_with fail
    refine (hb1.out _).mono ?_
    rintro e w1 ⟨rfl, H1⟩
    go_wp2_with fail
    (refine (speaks19_any _).mono ?_)
    rintro e w3 ⟨rfl, HQ⟩
    go_wp2_with fail
    go_ret
    exact ⟨rfl, palloc_below _ _ (H1.out.trans HQ.out (by simp)).below⟩
end Go.Proofs.Yteaepadamhmknaa
