/- The walk of HostsShare: never more than that share is ejected. -/
import Derived.Test.YteaepadamhmknaaHG
namespace Go.Proofs.Yteaepadamhmknaa
open Go.RowKit
set_option linter.unusedVariables false
theorem res_true {fails base long share L : Int} {hs : List Ho} {x y : Ho} {ok : Bool} (h : res fails base long share L hs x ok = (y, true)) :
    ok = false ∧ x.out = false ∧ y.out = true ∧ y.til = tlate L (min long (base * (x.times + 1))) ∧ 100 * ((nout hs : Int) + 1) ≤ share * hs.length := by
  unfold res at h
  split at h
  · cases h
  split at h
  · cases h
  split at h
  · cases h
  · rename_i a b c
    injection h with e1 e2
    subst e1
    exact ⟨by simpa using b, by simpa using a, rfl, rfl, by omega⟩
theorem res_false {fails base long share L : Int} {hs : List Ho} {x y : Ho} {ok : Bool} (h : res fails base long share L hs x ok = (y, false)) : y.out = x.out ∧ y.til = x.til := by
  unfold res at h
  split at h
  · injection h with e1 e2; subst e1; exact ⟨rfl, rfl⟩
  rename_i a
  have a' : x.out = false := by simpa using a
  split at h
  · injection h with e1 e2; subst e1; exact ⟨a'.symm, rfl⟩
  split at h
  · injection h with e1 e2; subst e1; exact ⟨a'.symm, rfl⟩
  · cases h
theorem nout_more (hs : List Ho) (i : Nat) (x y : Ho) (hx : hs[i]? = some x) (h : x.out = false) (h2 : y.out = true) : nout (hs.set i y) = nout hs + 1 := by
  induction hs generalizing i with
  | nil => simp at hx
  | cons z hs ih =>
    cases i with
    | zero =>
      obtain rfl : z = x := by simpa using hx
      simp [nout, h, h2]
    | succ i =>
      have := ih i (by simpa using hx)
      simp only [nout, List.set_cons_succ, List.filter_cons] at this ⊢
      split <;> simp [this]
theorem nout_rst (L : Int) (hs : List Ho) : nout (hs.map (Ho.rst L)) ≤ nout hs := by
  induction hs with
  | nil => simp [nout]
  | cons z hs ih =>
    unfold nout at ih ⊢
    rw [List.map_cons, List.filter_cons, List.filter_cons]
    have hz : (z.rst L).out = true → z.out = true := by
      unfold Ho.rst
      split
      · intro h; cases h
      · exact id
    by_cases h1 : (z.rst L).out = true
    · rw [if_pos h1, if_pos (hz h1)]
      simp only [List.length_cons]
      omega
    · rw [if_neg h1]
      split
      · simp only [List.length_cons]
        omega
      · exact ih
/-- What is kept of each host: till when it is ejected; behind that it may be used. -/
def Keep (hs : List Ho) (outs : List Int) (L : Int) : Prop := ∀ i x, hs[i]? = some x → (x.out = true → x.til = outs.getD i 0) ∧ (x.out = false → outs.getD i 0 ≤ L)
theorem Keep.rst {hs : List Ho} {outs : List Int} {L M : Int} (h : Keep hs outs L) (hm : L ≤ M) : Keep (hs.map (Ho.rst M)) outs M := by
  intro i x hx
  rw [List.getElem?_map] at hx
  obtain ⟨y, hy, rfl⟩ := Option.map_eq_some_iff.1 hx
  obtain ⟨h1, h2⟩ := h i y hy
  unfold Ho.rst
  split
  · rename_i hd
    unfold Ho.due at hd
    simp only [Bool.and_eq_true, decide_eq_true_eq] at hd
    have := h1 hd.1
    refine ⟨(fun h => by cases h), fun _ => by omega⟩
  · exact ⟨h1, fun h => by have := h2 h; omega⟩
theorem Keep.same {hs : List Ho} {outs : List Int} {L : Int} (h : Keep hs outs L) {i : Nat} {x y : Ho} (hx : hs[i]? = some x) (h1 : y.out = x.out) (h2 : y.til = x.til) : Keep (hs.set i y) outs L := by
  intro j z hz
  rw [List.getElem?_set] at hz
  split at hz
  · rename_i e
    subst e
    split at hz
    · injection hz with hz
      subst hz
      rw [h1, h2]
      exact h i x hx
    · cases hz
  · exact h j z hz
theorem Keep.more {hs : List Ho} {outs : List Int} {L : Int} (h : Keep hs outs L) {i : Nat} {y : Ho} (h1 : y.out = true) (hi : i < outs.length) : Keep (hs.set i y) (outs.set i y.til) L := by
  intro j z hz
  rw [List.getElem?_set] at hz
  split at hz
  · rename_i e
    subst e
    split at hz
    · injection hz with hz
      subst hz
      refine ⟨fun _ => ?_, (fun h => by rw [h1] at h; cases h)⟩
      simp [List.getD_eq_getElem?_getD, hi]
    · cases hz
  · rename_i e
    have := h j z hz
    have e2 : (outs.set i y.til).getD j 0 = outs.getD j 0 := by
      simp [List.getD_eq_getElem?_getD, e]
    rw [e2]
    exact this
theorem use_mem {hs : List Ho} {o : Nat} {z : Int} (h : z ∈ useI hs o) : ∃ i x, z = ((o + i : Nat) : Int) ∧ hs[i]? = some x ∧ x.out = false := by
  induction hs generalizing o with
  | nil => simp [useI] at h
  | cons y hs ih =>
    unfold useI at h
    have rec' : z ∈ useI hs (o + 1) → ∃ i x, z = ((o + i : Nat) : Int) ∧ (y :: hs)[i]? = some x ∧ x.out = false := by
      intro h
      obtain ⟨i, x, h1, h2, h3⟩ := ih h
      exact ⟨i + 1, x, by rw [h1]; congr 1; omega, by simpa using h2, h3⟩
    split at h
    · rename_i hc
      simp only [List.mem_cons] at h
      rcases h with h | h
      · simp only [Bool.and_eq_true, Bool.not_eq_true'] at hc
        exact ⟨0, y, by simpa using h, rfl, hc.1⟩
      · exact rec' h
    · exact rec' h
/-- The set and the list of moments. -/
def Shr (w0 : World) (b g q : Nat) (fails base long share : Int) (m : Nat) (now N : Int) (w : World) : Prop :=
  ∃ L hs outs, Hst 64 69 w b g fails base long share L hs ∧ Blk w q (outs.map (Value.int .i64)) 30 ∧ Chg [b, g, q] w0 w ∧ 0 ≤ L ∧ L ≤ now ∧ Fine N hs ∧ hs.length = m ∧ outs.length = 16 ∧ Keep hs outs L ∧ 100 * (nout hs : Int) ≤ share * (m : Int)
theorem Shr.mono {w0 w : World} {b g q : Nat} {fails base long share : Int} {m : Nat} {now now2 N M : Int} (h : Shr w0 b g q fails base long share m now N w) (h1 : now ≤ now2) (h2 : N ≤ M) : Shr w0 b g q fails base long share m now2 M w := by
  obtain ⟨L, hs, outs, a1, a2, a3, a4, a5, a6, a7⟩ := h
  exact ⟨L, hs, outs, a1, a2, a3, a4, by omega, a6.mono h2, a7⟩
theorem Shr.still {w0 w w' : World} {b g q : Nat} {fails base long share : Int} {m : Nat} {now N : Int} (h : Shr w0 b g q fails base long share m now N w) (hc : Chg [] w w') : Shr w0 b g q fails base long share m now N w' := by
  obtain ⟨L, hs, outs, a1, a2, a3, a7⟩ := h
  exact ⟨L, hs, outs, a1.frame hc (by simp) (by simp), a2.chg hc (by simp), a3.trans hc (by simp), a7⟩
theorem Shr.chg {w0 w : World} {b g q : Nat} {fails base long share : Int} {m : Nat} {now N : Int} (h : Shr w0 b g q fails base long share m now N w) : Chg [b, g, q] w0 w := by
  obtain ⟨L, hs, outs, a1, a2, a3, a7⟩ := h
  exact a3
theorem ints_cell {w : World} {q T : Nat} {outs : List Int} (h : Blk w q (outs.map (Value.int .i64)) T) (i : Nat) (hi : i < outs.length) : w.cell? ⟨q, i, none⟩ = some (.int .i64 (outs.getD i 0)) :=
  h.cell i _ (by simp [List.getD_eq_getElem?_getD, hi])
set_option maxHeartbeats 16000000 in
set_option maxRecDepth 100000 in
theorem hostsShare_walk (w : World) (num fails base long share : Int) (w1 : (Lit.int .i64 num).wf = true) (w2 : (Lit.int .i64 fails).wf = true) (w3 : (Lit.int .i64 base).wf = true) (w4 : (Lit.int .i64 long).wf = true) (w5 : (Lit.int .i64 share).wf = true)
    (a : Option Addr) (n cap : Nat) (f : Nat → Nat → Int) (hf : Flat w a n 3 f) (hr : n * 24 ≤ 140737488351232) (hn : n ≤ 9223372036854775807) :
    Calls Try.prog 3 #[.agg #[.int .i64 num, .int .i64 fails, .int .i64 base, .int .i64 long, .int .i64 share], .slice a n cap] w fun e w' => e = .returned (.bool true) ∧ Below w.heap.size w w' := by
  have HF := Lib.hid hf
  clear hf w1 w2 w3 w4 w5
  by_cases hg : Good num fails base long share
  · obtain ⟨m, rfl⟩ : ∃ m : Nat, num = m := ⟨num.toNat, by have := hg.1; omega⟩
    go_enter Try.func3, Try.ntmps3
    go_wp2_with fail
    refine (new_ok m fails base long share _ hg).mono ?_
    rintro e w1 ⟨b1, g1, rfl, hb1, hg1, hst1, hch1⟩
    have HG := Lib.hid hg
    obtain ⟨q1, q2, q3, q4, q5, q6, q7, q8, q9, qa⟩ := hg
    have hbx := (Blk.new w [.int .i64 m, .int .i64 fails, .int .i64 base, .int .i64 long, .int .i64 share] 23)
    have HBX := Lib.hid hbx
    have HN := Lib.hid (show Shr (w.alloc (.cells #[.int .i64 m, .int .i64 fails, .int .i64 base, .int .i64 long, .int .i64 share] 23)) b1 g1 w1.heap.size fails base long share m 0 0 (w1.alloc (.cells #[.int .i64 0, .int .i64 0, .int .i64 0, .int .i64 0, .int .i64 0, .int .i64 0, .int .i64 0, .int .i64 0, .int .i64 0, .int .i64 0, .int .i64 0, .int .i64 0, .int .i64 0, .int .i64 0, .int .i64 0, .int .i64 0] 30)) from
      ⟨0, _, [0, 0, 0, 0, 0, 0, 0, 0, 0, 0, 0, 0, 0, 0, 0, 0], hst1.frame ((Chg.refl [] w1).alloc _) (by simp) (by simp), Blk.new w1 _ 30, (hch1.mono (by simp)).alloc _, by omega, by omega, fine_fresh m, by simp, rfl, by
        intro i x hx
        obtain rfl := (List.mem_replicate.1 (List.mem_of_getElem? hx)).2
        refine ⟨(fun h => by cases h), fun _ => ?_⟩
        rw [List.getD_eq_getElem?_getD]
        cases h : ([0, 0, 0, 0, 0, 0, 0, 0, 0, 0, 0, 0, 0, 0, 0, 0] : List Int)[i]? with
        | none => simp
        | some v =>
          have := List.mem_of_getElem? h
          simp at this
          simp [this], by
        have h1 : nout (List.replicate m fresh) = 0 := by simp [nout, fresh]
        have := Int.mul_nonneg q9 (show (0 : Int) ≤ (m : Int) by omega)
        rw [h1]
        omega⟩)
    have HNEW := Lib.hid (show w.heap.size ∉ [b1, g1, w1.heap.size] ∧ ∀ i, i ∈ [b1, g1, w1.heap.size] → (w.alloc (.cells #[.int .i64 m, .int .i64 fails, .int .i64 base, .int .i64 long, .int .i64 share] 23)).heap.size ≤ i from by
      have hsz : (w.alloc (.cells #[.int .i64 m, .int .i64 fails, .int .i64 base, .int .i64 long, .int .i64 share] 23)).heap.size = w.heap.size + 1 := by simp
      have hs1 := hch1.size
      refine ⟨?_, fun i hi => ?_⟩
      · simp only [List.mem_cons, List.not_mem_nil, or_false]
        omega
      · simp only [List.mem_cons, List.not_mem_nil, or_false] at hi
        omega)
    have QN := Lib.hid (show w1.heap.size ≠ b1 ∧ w1.heap.size ≠ g1 from by
      have y1 := hst1.num.lt
      have y2 := Blk.lt hst1.recs
      omega)
    have HFA := Lib.hid ((Chg.refl [] w).alloc (.cells #[.int .i64 m, .int .i64 fails, .int .i64 base, .int .i64 long, .int .i64 share] 23))
    have HBA := Lib.hid (fun (w' : World) (h : Below (w.alloc (.cells #[.int .i64 m, .int .i64 fails, .int .i64 base, .int .i64 long, .int .i64 share] 23)).heap.size (w.alloc (.cells #[.int .i64 m, .int .i64 fails, .int .i64 base, .int .i64 long, .int .i64 share] 23)) w') => alloc_below w _ h)
    clear hb1 hg1 hst1 hch1 hbx
    generalize w.alloc (.cells #[.int .i64 m, .int .i64 fails, .int .i64 base, .int .i64 long, .int .i64 share] 23) = wA at *
    go_wp2_with fail
    generalize w1.alloc (.cells #[.int .i64 0, .int .i64 0, .int .i64 0, .int .i64 0, .int .i64 0, .int .i64 0, .int .i64 0, .int .i64 0, .int .i64 0, .int .i64 0, .int .i64 0, .int .i64 0, .int .i64 0, .int .i64 0, .int .i64 0, .int .i64 0] 30) = w2 at *
    generalize w1.heap.size = q at *
    clear w1
    go_loopw [7, 46] (fun nv iv wr => ∃ (k : Nat) (now : Int), k ≤ n ∧ iv = .int .i64 k ∧ nv = .int .i64 now ∧ 0 ≤ now ∧ now ≤ 2305843009213693952 ∧ Hid (Shr wA b1 g1 q fails base long share m now k wr)) (fun _ iv _ => n - (intOf iv).toNat)
    case atStart => exact ⟨0, 0, by omega, rfl, rfl, by omega, by omega, HN⟩
    case round =>
      clear HN w2
      obtain ⟨k, now, hk, rfl, rfl, n0, n1, HT⟩ := hrel
      by_cases hlt : k < n
      · obtain ⟨b, o, rfl, hbl, hx⟩ := HF.out.2 (by omega)
        have f0 := hx k 0 hlt (by omega)
        have f1 := hx k 1 hlt (by omega)
        have f2 := hx k 2 hlt (by omega)
        clear hx
        generalize f k 0 = kd at *
        generalize f k 1 = mo at *
        generalize f k 2 = ho at *
        have s0 : wr.cell? ⟨b, o + k * 3, none⟩ = some (.int .i64 kd) := (HT.out.chg.fresh HNEW.out.2).cell (HFA.out.cell f0 (by simp)) (by simp)
        have s1 : wr.cell? ⟨b, o + k * 3 + 1, none⟩ = some (.int .i64 mo) := (HT.out.chg.fresh HNEW.out.2).cell (HFA.out.cell f1 (by simp)) (by simp)
        have s2 : wr.cell? ⟨b, o + k * 3 + 2, none⟩ = some (.int .i64 ho) := (HT.out.chg.fresh HNEW.out.2).cell (HFA.out.cell f2 (by simp)) (by simp)
        clear f0 f1 f2
        have hk2 : (k : Int) ≤ 6000000000000 := by omega
        go_upto_region 9 with fail
        have HP := Lib.hid (HT.out.still ((Chg.refl [] wr).alloc (.cells #[.int .i64 kd, .int .i64 mo, .int .i64 ho] 32)))
        have HS := Lib.hid (Blk.new wr [.int .i64 kd, .int .i64 mo, .int .i64 ho] 32)
        have PN := Lib.hid (show wr.heap.size ∉ [b1, g1, q] by
          obtain ⟨L, hs, outs, a1, a2, a3, a7⟩ := HT.out
          have y1 := a1.num.lt
          have y2 := Blk.lt a1.recs
          have y3 := a2.lt
          simp
          omega)
        clear s0 s1 s2 HT
        generalize wr.alloc (.cells #[.int .i64 kd, .int .i64 mo, .int .i64 ho] 32) = wb at *
        generalize wr.heap.size = p at *
        have c0 := HS.out.cell 0 _ rfl
        have c1 := HS.out.cell 1 _ rfl
        have c2 := HS.out.cell 2 _ rfl
        have e0 := (HBX.out.chg HP.out.chg HNEW.out.1).cell 0 _ rfl
        go_cut [58] (fun s58 wx => ∃ bb : Bool, s58 = .bool bb ∧ Hid (bb = true → now < mo ∧ mo ≤ 2305843009213693952) ∧ wx = wb)
        case first =>
          by_cases k1 : now < mo
          · by_cases k2 : mo ≤ 2305843009213693952
            · go_wp2_with fail
              go_meet
              exact ⟨true, by simp [*], Lib.hid (fun _ => ⟨k1, k2⟩), rfl⟩
            · go_wp2_with fail
              go_meet
              exact ⟨false, by simp [*], Lib.hid (fun h => Bool.noConfusion h), rfl⟩
          · go_wp2_with fail
            go_meet
            exact ⟨false, by simp [*], Lib.hid (fun h => Bool.noConfusion h), rfl⟩
        case rest =>
        obtain ⟨bb, rfl, hbb, rfl⟩ := hcut
        go_upto_if 58 with fail
        go_cut [7] (fun s7 wx => ∃ n2 : Int, s7 = .int .i64 n2 ∧ now ≤ n2 ∧ n2 ≤ 2305843009213693952 ∧ wx = wc)
        case first =>
          cases bb
          · go_wp2_with fail
            go_meet
            exact ⟨now, rfl, by omega, n1, rfl⟩
          · obtain ⟨k1, k2⟩ := hbb.out rfl
            go_wp2_with fail
            go_meet
            exact ⟨mo, rfl, by omega, k2, rfl⟩
        case rest =>
        obtain ⟨n2, rfl, m0, m1, rfl⟩ := hcut
        clear hbb
        go_upto_region 11 with fail
        go_cut [75] (fun s75 wx => ∃ bb : Bool, s75 = .bool bb ∧ Hid (bb = true → kd < 3 ∧ 0 ≤ ho ∧ ho < m) ∧ wx = wc)
        case first =>
          by_cases k1 : kd < 3
          · by_cases k2 : 0 ≤ ho
            · by_cases k3 : ho < m
              · go_wp2_with fail
                go_meet
                exact ⟨true, by simp [*], Lib.hid (fun _ => ⟨k1, k2, k3⟩), rfl⟩
              · go_wp2_with fail
                go_meet
                exact ⟨false, by simp [*], Lib.hid (fun h => Bool.noConfusion h), rfl⟩
            · go_wp2_with fail
              go_meet
              exact ⟨false, by simp [*], Lib.hid (fun h => Bool.noConfusion h), rfl⟩
          · go_wp2_with fail
            go_meet
            exact ⟨false, by simp [*], Lib.hid (fun h => Bool.noConfusion h), rfl⟩
        case rest =>
        obtain ⟨bb, rfl, hbb, rfl⟩ := hcut
        go_upto_if 75 with fail
        go_cut [] (fun wx => Hid (Shr wA b1 g1 q fails base long share m n2 (k + 1 : Nat) wx))
        case first =>
          cases bb
          · go_wp2_with fail
            go_meet
            exact HP.out.mono m0 (by omega)
          · obtain ⟨k1, k2, k3⟩ := hbb.out rfl
            obtain ⟨i, rfl⟩ : ∃ i : Nat, ho = i := ⟨ho.toNat, by omega⟩
            obtain ⟨L, hs, outs, a1, a2, a3, a4, a5, a6, a7, a8, a9, aa⟩ := HP.out
            obtain ⟨x, hx⟩ : ∃ x, (hs.map (Ho.rst n2))[i]? = some x := ⟨_, List.getElem?_eq_getElem (by simp; omega)⟩
            obtain ⟨r0, r1, t0, t1⟩ := a6.rst.get hx
            have HX := Lib.hid hx
            have A1 := Lib.hid a1
            have A2 := Lib.hid a2
            have A3 := Lib.hid a3
            have A6 := Lib.hid a6
            have A9 := Lib.hid (Keep.rst a9 (show L ≤ n2 by omega))
            have A7 := Lib.hid a7
            have A8 := Lib.hid a8
            have AA := Lib.hid (show 100 * (nout (hs.map (Ho.rst n2)) : Int) ≤ share * (m : Int) by
              have := nout_rst n2 hs
              omega)
            clear hx a1 a2 a3 a6 a9 aa a7 a8 hbb HP
            by_cases kk : kd = 0
            · subst kk
              obtain ⟨y, z, hy⟩ : ∃ y z, res fails base long share n2 (hs.map (Ho.rst n2)) x true = (y, z) := ⟨_, _, rfl⟩
              have hz : z = false := by
                cases z
                · rfl
                · have := (res_true hy).1
                  cases this
              subst hz
              have HY := Lib.hid hy
              clear hy
              go_wp2_with fail
              refine (result_any b1 g1 fails base long share L n2 n2 true hs _ rfl _ A1.out (by rw [A7.out]; exact HG.out) (by omega) (by omega) (by omega) (by omega) (by omega) i x y false HX.out r0 (by omega) t0 (by omega) HY.out).mono ?_
              rintro e w3 ⟨rfl, HQ⟩
              go_wp2_with fail
              go_meet
              obtain ⟨e1, e2⟩ := res_false HY.out
              refine ⟨n2, _, outs, HQ.out.1, A2.out.chg HQ.out.2 (by have := QN.out; simp; omega), A3.out.trans HQ.out.2 (by intro i hi _; simp at hi ⊢; omega), by omega, by omega, (A6.out.rst.mono (by omega)).set i (by have := res_fine HY.out ⟨r0, r1, t0, t1⟩; simpa using this), by simpa using A7.out, A8.out, Keep.same A9.out HX.out e1 e2, ?_⟩
              rw [nout_set _ _ _ _ HX.out e1]
              exact AA.out
            · have kk2 : (kd == 0) = false := beq_eq_false_iff_ne.2 kk
              obtain ⟨y, z, hy⟩ : ∃ y z, res fails base long share n2 (hs.map (Ho.rst n2)) x false = (y, z) := ⟨_, _, rfl⟩
              cases z
              · have HY := Lib.hid hy
                clear hy
                go_wp2_with fail
                refine (result_any b1 g1 fails base long share L n2 n2 false hs _ rfl _ A1.out (by rw [A7.out]; exact HG.out) (by omega) (by omega) (by omega) (by omega) (by omega) i x y false HX.out r0 (by omega) t0 (by omega) HY.out).mono ?_
                rintro e w3 ⟨rfl, HQ⟩
                go_wp2_with fail
                go_meet
                obtain ⟨e1, e2⟩ := res_false HY.out
                refine ⟨n2, _, outs, HQ.out.1, A2.out.chg HQ.out.2 (by have := QN.out; simp; omega), A3.out.trans HQ.out.2 (by intro i hi _; simp at hi ⊢; omega), by omega, by omega, (A6.out.rst.mono (by omega)).set i (by have := res_fine HY.out ⟨r0, r1, t0, t1⟩; simpa using this), by simpa using A7.out, A8.out, Keep.same A9.out HX.out e1 e2, ?_⟩
                rw [nout_set _ _ _ _ HX.out e1]
                exact AA.out
              · have HY := Lib.hid hy
                obtain ⟨-, xo, yo, yt, yn⟩ := res_true hy
                have hbm1 : 1 * 1 ≤ base * (x.times + 1) := Int.mul_le_mul q5 (by omega) (by omega) (by omega)
                have hyt : y.til = n2 + min long (base * (x.times + 1)) := by
                  rw [yt]
                  unfold tlate
                  rw [if_neg (by omega)]
                have hy1 : n2 < y.til := by omega
                have hy2 : y.til ≤ n2 + long := by omega
                have hole := (A9.out i x HX.out).2 xo
                have HXO := Lib.hid (And.intro xo (And.intro yo yn))
                clear hy xo yo yt yn hbm1 hyt
                go_wp2_with fail
                refine (result_any b1 g1 fails base long share L n2 n2 false hs _ rfl _ A1.out (by rw [A7.out]; exact HG.out) (by omega) (by omega) (by omega) (by omega) (by omega) i x y true HX.out r0 (by omega) t0 (by omega) HY.out).mono ?_
                rintro e w3 ⟨rfl, HQ⟩
                have c0 := (HS.out.chg HQ.out.2 (by have := PN.out; simp at this ⊢; omega)).cell 0 _ rfl
                have c2 := (HS.out.chg HQ.out.2 (by have := PN.out; simp at this ⊢; omega)).cell 2 _ rfl
                have hbx3 := HBX.out.chg (A3.out.trans HQ.out.2 (by intro i hi _; simp at hi ⊢; omega)) HNEW.out.1
                have e3 := hbx3.cell 3 _ rfl
                have HO := Lib.hid (A2.out.chg HQ.out.2 (by have := QN.out; simp; omega))
                have hol : i < outs.length := by rw [A8.out]; omega
                have v0 := ints_cell HO.out i hol
                have fv := HO.out.free i
                generalize outs.getD i 0 = ov at *
                have HU := Lib.hid (show untilV ((hs.map (Ho.rst n2)).set i y) i = (y.til, true) by
                  have h1 : ((hs.map (Ho.rst n2)).set i y)[i]? = some y := List.getElem?_set_self (by simp; rw [A7.out]; omega)
                  unfold untilV
                  rw [if_neg (by omega), Int.toNat_natCast, h1]
                  dsimp only
                  rw [if_pos HXO.out.2.1])
                have h16 : ((hs.map (Ho.rst n2)).set i y).length ≤ 16 := by simp; rw [A7.out]; omega
                have hw : IntKind.i64.wrap (n2 + long) = n2 + long := IntWalk.i64_in _ (by omega)
                have HBR := Lib.hid HQ.out.1
                have HCR := Lib.hid HQ.out.2
                have hi16 : (i : Int) < 16 := by omega
                clear hbx3 HQ
                go_wp2_with (first | (go_at_call 15; (with_reducible refine (until_any b1 g1 fails base long share n2 _ _ HBR.out h16 i _ _ HU.out).mono ?_); rintro e w' ⟨rfl, rfl⟩))
                go_meet
                have hq1 : b1 ∉ [q] ∧ g1 ∉ [q] := by have := QN.out; simp; omega
                have hb := HO.out.set i (.int .i64 y.til)
                rw [← List.map_set (f := Value.int IntKind.i64)] at hb
                refine ⟨n2, _, outs.set i y.til, HBR.out.frame ((Chg.refl [q] w3).setCell (by simp) _) hq1.1 hq1.2, hb, (A3.out.trans HCR.out (by intro i hi _; simp at hi ⊢; omega)).setCell (by simp) _, by omega, by omega, (A6.out.rst.mono (by omega)).set i (by have := res_fine HY.out ⟨r0, r1, t0, t1⟩; simpa using this), by simpa using A7.out, by simpa using A8.out, Keep.more A9.out HXO.out.2.1 (by rw [A8.out]; omega), ?_⟩
                rw [nout_more _ _ _ _ HX.out HXO.out.1 HXO.out.2.1]
                have := HXO.out.2.2
                rw [List.length_map, A7.out] at this
                push_cast
                exact this
        case rest =>
        obtain ⟨L, hs, outs, a1, a2, a3, a4, a5, a6, a7, a8, a9, aa⟩ := hcut.out
        have A1 := Lib.hid a1
        have h16 : hs.length ≤ 16 := by omega
        have A0 := Lib.hid (And.intro a2 (And.intro a3 (And.intro a6 (And.intro a7 (And.intro a8 (And.intro a9 aa))))))
        clear a1 a2 a3 a6 a7 a8 a9 aa hcut hbb
        go_wp2_with fail
        refine (usable_any b1 g1 fails base long share L n2 n2 hs _ A1.out h16 (by omega) (by omega) (by omega)).mono ?_
        rintro e w4 ⟨v, rfl, ho1, hf1, hst4, hch4⟩
        obtain ⟨A, ca, rfl, hi1, -⟩ := ho1.ints
        have HI1 := Lib.hid hi1
        have hul := useI_len (hs.map (Ho.rst n2)) 0
        rw [List.length_map] at hul
        have HMEM := Lib.hid (show ∀ z, z ∈ useI (hs.map (Ho.rst n2)) 0 → ∃ j : Nat, z = j ∧ j < m ∧ outs.getD j 0 ≤ n2 from by
          intro z hz
          obtain ⟨j, x, h1, h2, h3⟩ := use_mem hz
          obtain ⟨a2, a3, a6, a7, a8, a9, aa⟩ := A0.out
          have h4 := (List.getElem?_eq_some_iff.1 h2).1
          rw [List.length_map, a7] at h4
          exact ⟨j, by simpa using h1, h4, ((Keep.rst a9 a5) j x h2).2 h3⟩)
        have H4 := Lib.hid (show Shr wA b1 g1 q fails base long share m n2 (k + 1 : Nat) w4 ∧ Hst 64 69 w4 b1 g1 fails base long share n2 (hs.map (Ho.rst n2)) ∧ Blk w4 q (outs.map (Value.int .i64)) 30 ∧ 100 * (nout (hs.map (Ho.rst n2)) : Int) ≤ share * (m : Int) ∧ outs.length = 16 from by
          obtain ⟨a2, a3, a6, a7, a8, a9, aa⟩ := A0.out
          have hq : q ∉ [b1, g1] := by have := QN.out; simp; omega
          have h5 : 100 * (nout (hs.map (Ho.rst n2)) : Int) ≤ share * (m : Int) := by
            have := nout_rst n2 hs
            omega
          exact ⟨⟨n2, _, outs, hst4, a2.chg hch4 hq, a3.trans hch4 (by intro i hi _; simp at hi ⊢; omega), by omega, by omega, a6.rst, by simpa using a7, a8, Keep.rst a9 a5, h5⟩, hst4, a2.chg hch4 hq, h5, a8⟩)
        have hle := H4.out.2.2.2.1
        have hno := nout_le (hs.map (Ho.rst n2))
        rw [List.length_map] at hno
        obtain ⟨no, hno2⟩ : ∃ q : Nat, q = nout (hs.map (Ho.rst n2)) := ⟨_, rfl⟩
        rw [← hno2] at hle hno
        have HNO := Lib.hid hno2.symm
        obtain ⟨zs, hzs⟩ : ∃ q, q = useI (hs.map (Ho.rst n2)) 0 := ⟨_, rfl⟩
        rw [← hzs] at HI1 HMEM hul
        clear ho1 hf1 hst4 hch4 hi1 A0 A1 hno2
        rw [← hzs]
        clear hzs
        have hbx4 := HBX.out.chg H4.out.1.chg HNEW.out.1
        have e0 := hbx4.cell 0 _ rfl
        have e4 := hbx4.cell 4 _ rfl
        clear hbx4
        have hnm : share * (m : Int) ≤ 100 * 16 := Int.mul_le_mul qa q2 (by omega) (by omega)
        have hnz : 0 ≤ share * (m : Int) := Int.mul_nonneg q9 (by omega)
        have hw2 : IntKind.i64.wrap (100 * (no : Int)) = 100 * (no : Int) := IntWalk.i64_in _ (by omega)
        have hw3 : IntKind.i64.wrap (share * (m : Int)) = share * (m : Int) := IntWalk.i64_in _ (by omega)
        go_wp2_with fail
        go_region_held3 (fun w' => w'.cell? ⟨w.heap.size, 0, none⟩ = some (.int .i64 m) ∧ w'.cell? ⟨w.heap.size, 4, none⟩ = some (.int .i64 share))
          (exact ⟨e0, e4⟩)
          (first | (go_at_call 17; (with_reducible refine (ejected_any b1 g1 fails base long share n2 _ _ (H4.out.2.1.frame (F := []) (by first | exact Chg.refl [] _ | exact (Chg.refl [] _).drew | exact (Chg.refl [] _).drewN _) (by simp) (by simp)) (by simpa using h16)).mono ?_); rintro e w5 ⟨rfl, hc⟩; have hc2 := Lib.hid (Chg.trans (F := []) (a := w4) (by first | exact Chg.refl [] _ | exact (Chg.refl [] _).drew | exact (Chg.refl [] _).drewN _) hc.out (by simp)); have e0 := (HBX.out.chg (H4.out.1.still hc2.out).chg HNEW.out.1).cell 0 _ rfl; have e4 := (HBX.out.chg (H4.out.1.still hc2.out).chg HNEW.out.1).cell 4 _ rfl; clear hc; rw [HNO.out]))
        clear e0 e4 hw2 hw3
        go_wp2_with fail
        go_loopw [153] (fun iv wx => ∃ j : Nat, iv = .int .i64 j ∧ j ≤ zs.length ∧ Hid (Chg [] w5 wx)) (fun iv _ => zs.length - (intOf iv).toNat)
        case atStart => exact ⟨0, rfl, by omega, Chg.refl _ _⟩
        case round =>
          obtain ⟨j, rfl, hj, HCJ⟩ := hrel
          by_cases hjl : j < zs.length
          · obtain ⟨x, rfl, hxc⟩ := (HI1.out.chg (hc2.out.trans HCJ.out (by simp)) (by simp)).2 (by omega)
            have cz := hxc j hjl
            obtain ⟨jj, hz, hjm, hjo⟩ := HMEM.out (zs.getD j 0) (by rw [List.getD_eq_getElem?_getD, List.getElem?_eq_getElem hjl]; simp)
            rw [hz] at cz
            have HJ := Lib.hid ((H4.out.1.still hc2.out).still HCJ.out)
            have vj := ints_cell (((H4.out.2.2.1.chg hc2.out (by simp)).chg HCJ.out (by simp))) jj (by rw [H4.out.2.2.2.2]; omega)
            have e0 := (HBX.out.chg HJ.out.chg HNEW.out.1).cell 0 _ rfl
            generalize outs.getD jj 0 = ov at *
            have hjl2 : (j : Int) < (zs.length : Int) := by omega
            have hjm2 : (jj : Int) < (m : Int) := by omega
            have hj16 : (jj : Int) < 16 := by omega
            clear hz hxc
            go_wp2_with fail
            go_roundw
            case rel => exact ⟨j + 1, by go_num, by omega, HCJ⟩
            case measure => simp [intOf]; omega
          · go_wp2_with fail
            go_roundw
            case rel => exact ⟨k + 1, n2, by omega, by go_num, rfl, by omega, m1, (H4.out.1.still hc2.out).still HCJ.out⟩
            case measure => simp [intOf]; omega
      · go_wp2_with fail
        (refine (speaks18_any _).mono ?_)
        rintro e w3 ⟨rfl, HQ⟩
        go_wp2_with fail
        go_ret
        exact ⟨rfl, HBA.out _ ((HT.out.chg.fresh HNEW.out.2).trans HQ.out (by simp)).below⟩
  · have hb1 := Lib.hid (fun w => new_bad num fails base long share hg w)
    clear hg
    go_enter Try.func3, Try.ntmps3
    go_wp2_with (first | (go_at_call 12; (with_reducible refine (hb1.out _).mono ?_); rintro e w' ⟨rfl, rfl⟩))
    (refine (speaks18_any _).mono ?_)
    rintro e w3 ⟨rfl, HQ⟩
    go_wp2_with fail
    go_ret
    exact ⟨rfl, alloc_below _ _ HQ.out.below⟩
end Go.Proofs.Yteaepadamhmknaa
