/- Layer 19: the hosts for which something is to be done. -/
import Derived.Test.YteaepadamhmknaaP1
namespace Go.Proofs.Yteaepadamhmknaa
open Go.RowKit
set_option linter.unusedVariables false

/-- The numbers of those that p takes, the first of the list being number o. -/
def idxI (p : Ho → Bool) : List Ho → Nat → List Int
  | [], _ => []
  | x :: hs, o => if p x = true then (o : Int) :: idxI p hs (o + 1) else idxI p hs (o + 1)
theorem idxI_snoc (p : Ho → Bool) (hs : List Ho) (x : Ho) (o : Nat) : idxI p (hs ++ [x]) o = idxI p hs o ++ if p x = true then [((o + hs.length : Nat) : Int)] else [] := by
  induction hs generalizing o with
  | nil => simp [idxI]
  | cons y hs ih =>
    rw [List.cons_append]
    unfold idxI
    rw [ih (o + 1)]
    have e : o + 1 + hs.length = o + (y :: hs).length := by simp; omega
    rw [e]
    split <;> simp
theorem idxI_len (p : Ho → Bool) (hs : List Ho) (o : Nat) : (idxI p hs o).length ≤ hs.length := by
  induction hs generalizing o with
  | nil => simp [idxI]
  | cons y hs ih =>
    unfold idxI
    have := ih (o + 1)
    split <;> simp <;> omega
/-- Is something to be done for a host whose probe runs, or not? -/
def hit (runs : Bool) (every timeout last : Int) (x : Ho) : Bool := (x.sick == runs) && (decide (whenV timeout x ≤ last) && decide (0 < every))
/-- All moments are moments. -/
def AtOk (hs : List Ho) : Prop := ∀ x, x ∈ hs → 0 ≤ x.til ∧ x.til ≤ 4611686018427387904
set_option maxHeartbeats 8000000 in
set_option maxRecDepth 100000 in
theorem some_any (b g : Nat) (every timeout up down last : Int) (runs : Bool) (hs : List Ho) (w : World) (h : Hst 83 85 w b g every timeout up down last hs) (hl : hs.length ≤ 16) (ht : 0 ≤ timeout ∧ timeout ≤ 1000000) (hat : AtOk hs) :
    Calls Try.prog 41 #[.pointer (some ⟨b, 0, none⟩), .bool runs] w fun e w' => ∃ v, e = .returned v ∧ Own 3 w' v (idxI (hit runs every timeout last) hs 0) ∧ (∀ q, v.ownBlock = some q → w.heap.size ≤ q) ∧ Chg [] w w' := by
  have HH := Lib.hid h
  have HAT := Lib.hid hat
  have c5 := h.num.cell 5 _ rfl
  obtain ⟨i0, hi, hz0, hz1, hz2⟩ := info_parts info3
  have HI := Lib.hid (And.intro hi (And.intro hz0 (And.intro hz1 hz2)))
  have hl2 : (hs.length : Int) ≤ 16 := by omega
  clear hi hz0 hz1 hz2 h hat
  go_enter Try.func41, Try.ntmps41
  go_wp2_with fail
  go_loopw [5, 13] (fun v i wr => ∃ (k : Nat), k ≤ hs.length ∧ i = .int .i64 k ∧ Hid (Own 3 wr v (idxI (hit runs every timeout last) (hs.take k) 0)) ∧ Hid (∀ q, v.ownBlock = some q → w.heap.size ≤ q) ∧ Hid (Hst 83 85 wr b g every timeout up down last hs) ∧ Hid (Chg [] w wr)) (fun _ i _ => hs.length - (intOf i).toNat)
  case atStart => exact ⟨0, by omega, rfl, Own.nil _ _, Lib.hid (by simp [Value.ownBlock]), HH, Chg.refl _ _⟩
  case round =>
    clear c5
    obtain ⟨k, hk, rfl, HO, HF, HS, HC⟩ := hrel
    by_cases hkl : k < hs.length
    · obtain ⟨x, hx⟩ : ∃ x, hs[k]? = some x := ⟨_, List.getElem?_eq_getElem hkl⟩
      have c5 := HS.out.num.cell 5 _ rfl
      obtain ⟨d0, d1, d2, d3, d4⟩ := HS.out.host hx
      have HX := Lib.hid hx
      obtain ⟨q0, q1⟩ := HAT.out x (List.mem_of_getElem? hx)
      obtain ⟨tv, htv⟩ : ∃ q, whenV timeout x = q := ⟨_, rfl⟩
      have HTV := Lib.hid htv
      clear hx htv
      obtain ⟨sick, out, til, row, times⟩ := x
      dsimp only at d0 d1 d2 d3 d4 q0 q1
      by_cases hsr : sick = runs
      · by_cases hv : tv ≤ last
        · have hv' : decide (tv ≤ last) = true := decide_eq_true hv
          by_cases he : 0 < every
          · subst hsr
            have e1 : idxI (hit sick every timeout last) (hs.take (k + 1)) 0 = idxI (hit sick every timeout last) (hs.take k) 0 ++ [((k : Nat) : Int)] := by
              rw [take_snoc hs k _ HX.out, idxI_snoc, if_pos (by unfold hit; rw [HTV.out]; simp [hv, he])]
              simp
              omega
            have E1 := Lib.hid e1
            have hlen : (idxI (hit sick every timeout last) (hs.take k) 0).length ≤ 16 := by
              have h1 := idxI_len (hit sick every timeout last) (hs.take k) 0
              have h2 : (hs.take k).length ≤ k := List.length_take_le _ _
              omega
            clear e1
            obtain ⟨A, cp, rfl⟩ := HO.out.form
            go_upto_region 5 with fail
            have HSA := Lib.hid (HS.out.frame ((Chg.refl [] wr).alloc (.cells #[.bool sick, .bool out, .int .i64 til, .int .i64 row, .int .i64 times] 85)) (by simp) (by simp))
            have HOA := Lib.hid (HO.out.chg ((Chg.refl [] wr).alloc (.cells #[.bool sick, .bool out, .int .i64 til, .int .i64 row, .int .i64 times] 85)) (by simp))
            have HBA := Lib.hid (Blk.new wr [.bool sick, .bool out, .int .i64 til, .int .i64 row, .int .i64 times] 85)
            have HCA := Lib.hid (HC.out.alloc (.cells #[.bool sick, .bool out, .int .i64 til, .int .i64 row, .int .i64 times] 85))
            clear d0 d1 d2 d3 d4 c5 HS HO HC
            generalize wr.alloc (.cells #[.bool sick, .bool out, .int .i64 til, .int .i64 row, .int .i64 times] 85) = wa at *
            generalize wr.heap.size = p at *
            have b0 := HBA.out.cell 0 _ rfl
            have b1 := HBA.out.cell 1 _ rfl
            have b2 := HBA.out.cell 2 _ rfl
            have b3 := HBA.out.cell 3 _ rfl
            have b4 := HBA.out.cell 4 _ rfl
            have c4 := HSA.out.num.cell 4 _ rfl
            have c0 := HSA.out.num.cell 0 _ rfl
            have hss : (sick == sick) = true := by simp
            go_region_held3 (fun w' => w'.cell? ⟨p, 0, none⟩ = some (.bool sick) ∧ w'.cell? ⟨p, 1, none⟩ = some (.bool out) ∧ w'.cell? ⟨p, 2, none⟩ = some (.int .i64 til) ∧ w'.cell? ⟨p, 3, none⟩ = some (.int .i64 row) ∧ w'.cell? ⟨p, 4, none⟩ = some (.int .i64 times) ∧ w'.cell? ⟨b, 4, none⟩ = some (.int .i64 last) ∧ w'.cell? ⟨b, 0, none⟩ = some (.int .i64 every))
              (exact ⟨b0, b1, b2, b3, b4, c4, c0⟩)
              (first | (go_at_call 42; (with_reducible refine (when_any b g every timeout up down last hs _ (HSA.out.frame (F := []) (by first | exact Chg.refl [] _ | exact (Chg.refl [] _).drew | exact (Chg.refl [] _).drewN _) (by simp) (by simp)) ht ⟨sick, out, til, row, times⟩ q0 q1).mono ?_); rintro e w3 ⟨rfl, hc⟩; have hc2 := Chg.trans (F := []) (a := wa) (by first | exact Chg.refl [] _ | exact (Chg.refl [] _).drew | exact (Chg.refl [] _).drewN _) hc.out (by simp); have hq := HBA.out.chg hc2 (by simp); have hr := HSA.out.frame hc2 (by simp) (by simp); have b0 := hq.cell 0 _ rfl; have b1 := hq.cell 1 _ rfl; have b2 := hq.cell 2 _ rfl; have b3 := hq.cell 3 _ rfl; have b4 := hq.cell 4 _ rfl; have c4 := hr.num.cell 4 _ rfl; have c0 := hr.num.cell 0 _ rfl; have HC2 := Lib.hid hc2; clear hc hc2 hq hr; rw [HTV.out]))
            have HO3 := Lib.hid (HOA.out.chg HC2.out (by simp))
            have HS3 := Lib.hid (HSA.out.frame HC2.out (by simp) (by simp))
            have HC3 := Lib.hid (HCA.out.trans HC2.out (by simp))
            clear b0 b1 b2 b3 b4 c4 c0 HOA HSA HCA HBA HC2
            go_wp2_with (at_builtin; refine wpList_append_own_at _ rfl _ _ 37 rfl 0 3 i0 (.int .i64 0) 1 8 Try.underlying37 HI.out.1 HI.out.2.1 HI.out.2.2.1 HI.out.2.2.2 rfl (by decide) (.slice A (idxI (hit sick every timeout last) (hs.take k) 0).length cp) (idxI (hit sick every timeout last) (hs.take k) 0).length ((idxI (hit sick every timeout last) (hs.take k) 0).map (Value.int .i64)) rfl (HO3.out.alloc _) ⟨w3.heap.size, 0, none⟩ 1 1 [.int .i64 k] rfl rfl (cell_one_new _ _ _) (by simp [Value.oneCell']) (by unfold maxLen; omega) (by omega) (Nat.zero_le _) ?_; intro v5 w5 hown hgrow _ hat)
            have hc5 : Chg (Value.slice A (idxI (hit sick every timeout last) (hs.take k) 0).length cp).ownBlock.toList w3 w5 := ((Chg.refl _ w3).alloc _).grown hgrow (by intro i hi _; simp [hi])
            have hsz : (w3.alloc (.cells #[.int .i64 k] 3)).heap.size = w3.heap.size + 1 := by simp
            have s4 := HC3.out.size
            have l1 := HH.out.num.lt
            have l2 := Blk.lt HH.out.recs
            have hfr : ∀ q, v5.ownBlock = some q → w.heap.size ≤ q := by
              intro q hq
              rcases hat with hat | hat
              · exact HF.out q (by rw [← hat]; exact hq)
              · rw [hq] at hat
                injection hat with hat
                omega
            have hnb : ∀ q, q < w.heap.size → q ∉ (Value.slice A (idxI (hit sick every timeout last) (hs.take k) 0).length cp).ownBlock.toList := by
              intro q hq hm
              have := HF.out q (by simpa using hm)
              omega
            have HS5 := Lib.hid (HS3.out.frame hc5 (hnb b l1) (hnb g l2))
            have HC5 := Lib.hid (HC3.out.trans hc5 (fun i hi hlt => by have := HF.out i (by simpa using hi); omega))
            have HO5 := Lib.hid (own_push hown)
            have HF5 := Lib.hid hfr
            clear hown hgrow hat hc5 hsz s4 l1 l2 hfr hnb
            go_roundw
            case rel => exact ⟨k + 1, by omega, by go_num, by rw [E1.out]; exact HO5, HF5, HS5, HC5⟩
            case measure => simp [intOf]; omega
          · have he' : decide (0 < every) = false := decide_eq_false he
            subst hsr
            have e1 : idxI (hit sick every timeout last) (hs.take (k + 1)) 0 = idxI (hit sick every timeout last) (hs.take k) 0 := by rw [take_snoc hs k _ HX.out, idxI_snoc, if_neg (by rw [(show hit sick every timeout last _ = false by unfold hit; rw [he']; simp)]; simp)]; simp
            have E1 := Lib.hid e1
            clear e1
            go_upto_region 5 with fail
            have HSA := Lib.hid (HS.out.frame ((Chg.refl [] wr).alloc (.cells #[.bool sick, .bool out, .int .i64 til, .int .i64 row, .int .i64 times] 85)) (by simp) (by simp))
            have HOA := Lib.hid (HO.out.chg ((Chg.refl [] wr).alloc (.cells #[.bool sick, .bool out, .int .i64 til, .int .i64 row, .int .i64 times] 85)) (by simp))
            have HBA := Lib.hid (Blk.new wr [.bool sick, .bool out, .int .i64 til, .int .i64 row, .int .i64 times] 85)
            have HCA := Lib.hid (HC.out.alloc (.cells #[.bool sick, .bool out, .int .i64 til, .int .i64 row, .int .i64 times] 85))
            clear d0 d1 d2 d3 d4 c5 HS HO HC
            generalize wr.alloc (.cells #[.bool sick, .bool out, .int .i64 til, .int .i64 row, .int .i64 times] 85) = wa at *
            generalize wr.heap.size = p at *
            have b0 := HBA.out.cell 0 _ rfl
            have b1 := HBA.out.cell 1 _ rfl
            have b2 := HBA.out.cell 2 _ rfl
            have b3 := HBA.out.cell 3 _ rfl
            have b4 := HBA.out.cell 4 _ rfl
            have c4 := HSA.out.num.cell 4 _ rfl
            have c0 := HSA.out.num.cell 0 _ rfl
            have hss : (sick == sick) = true := by simp
            go_region_held3 (fun w' => w'.cell? ⟨p, 0, none⟩ = some (.bool sick) ∧ w'.cell? ⟨p, 1, none⟩ = some (.bool out) ∧ w'.cell? ⟨p, 2, none⟩ = some (.int .i64 til) ∧ w'.cell? ⟨p, 3, none⟩ = some (.int .i64 row) ∧ w'.cell? ⟨p, 4, none⟩ = some (.int .i64 times) ∧ w'.cell? ⟨b, 4, none⟩ = some (.int .i64 last) ∧ w'.cell? ⟨b, 0, none⟩ = some (.int .i64 every))
              (exact ⟨b0, b1, b2, b3, b4, c4, c0⟩)
              (first | (go_at_call 42; (with_reducible refine (when_any b g every timeout up down last hs _ (HSA.out.frame (F := []) (by first | exact Chg.refl [] _ | exact (Chg.refl [] _).drew | exact (Chg.refl [] _).drewN _) (by simp) (by simp)) ht ⟨sick, out, til, row, times⟩ q0 q1).mono ?_); rintro e w3 ⟨rfl, hc⟩; have hc2 := Chg.trans (F := []) (a := wa) (by first | exact Chg.refl [] _ | exact (Chg.refl [] _).drew | exact (Chg.refl [] _).drewN _) hc.out (by simp); have hq := HBA.out.chg hc2 (by simp); have hr := HSA.out.frame hc2 (by simp) (by simp); have b0 := hq.cell 0 _ rfl; have b1 := hq.cell 1 _ rfl; have b2 := hq.cell 2 _ rfl; have b3 := hq.cell 3 _ rfl; have b4 := hq.cell 4 _ rfl; have c4 := hr.num.cell 4 _ rfl; have c0 := hr.num.cell 0 _ rfl; have HC2 := Lib.hid hc2; clear hc hc2 hq hr; rw [HTV.out]))
            go_wp2_with fail
            go_roundw
            case rel => exact ⟨k + 1, by omega, by go_num, by rw [E1.out]; exact HOA.out.chg HC2.out (by simp), HF, HSA.out.frame HC2.out (by simp) (by simp), HCA.out.trans HC2.out (by simp)⟩
            case measure => simp [intOf]; omega
        · have hv' : decide (tv ≤ last) = false := decide_eq_false hv
          subst hsr
          have e1 : idxI (hit sick every timeout last) (hs.take (k + 1)) 0 = idxI (hit sick every timeout last) (hs.take k) 0 := by rw [take_snoc hs k _ HX.out, idxI_snoc, if_neg (by rw [(show hit sick every timeout last _ = false by unfold hit; rw [HTV.out, hv']; simp)]; simp)]; simp
          have E1 := Lib.hid e1
          clear e1
          go_upto_region 5 with fail
          have HSA := Lib.hid (HS.out.frame ((Chg.refl [] wr).alloc (.cells #[.bool sick, .bool out, .int .i64 til, .int .i64 row, .int .i64 times] 85)) (by simp) (by simp))
          have HOA := Lib.hid (HO.out.chg ((Chg.refl [] wr).alloc (.cells #[.bool sick, .bool out, .int .i64 til, .int .i64 row, .int .i64 times] 85)) (by simp))
          have HBA := Lib.hid (Blk.new wr [.bool sick, .bool out, .int .i64 til, .int .i64 row, .int .i64 times] 85)
          have HCA := Lib.hid (HC.out.alloc (.cells #[.bool sick, .bool out, .int .i64 til, .int .i64 row, .int .i64 times] 85))
          clear d0 d1 d2 d3 d4 c5 HS HO HC
          generalize wr.alloc (.cells #[.bool sick, .bool out, .int .i64 til, .int .i64 row, .int .i64 times] 85) = wa at *
          generalize wr.heap.size = p at *
          have b0 := HBA.out.cell 0 _ rfl
          have b1 := HBA.out.cell 1 _ rfl
          have b2 := HBA.out.cell 2 _ rfl
          have b3 := HBA.out.cell 3 _ rfl
          have b4 := HBA.out.cell 4 _ rfl
          have c4 := HSA.out.num.cell 4 _ rfl
          have c0 := HSA.out.num.cell 0 _ rfl
          have hss : (sick == sick) = true := by simp
          refine wp_region_held_drew (S := (fun w' => w'.cell? ⟨p, 0, none⟩ = some (.bool sick) ∧ w'.cell? ⟨p, 1, none⟩ = some (.bool out) ∧ w'.cell? ⟨p, 2, none⟩ = some (.int .i64 til) ∧ w'.cell? ⟨p, 3, none⟩ = some (.int .i64 row) ∧ w'.cell? ⟨p, 4, none⟩ = some (.int .i64 times) ∧ w'.cell? ⟨b, 4, none⟩ = some (.int .i64 last) ∧ w'.cell? ⟨b, 0, none⟩ = some (.int .i64 every))) (by kernel_rfl) ⟨b0, b1, b2, b3, b4, c4, c0⟩ (fun hHeld => ?_)
          refine wpAnyH_take (i := 0) (oi := ?oi0) (v := (.pointer (some ⟨p, 0, none⟩))) ?hi0 (by kernel_rfl) (by kernel_rfl) (by kernel_rfl) ?hQ0 ?hy0 hHeld ?rest0
          case hi0 =>
            simp only [List.getElem?_toArray, List.getElem?_cons_zero]
            rfl
          case hQ0 => exact fun _ _ _ h => h
          case hy0 =>
            refine Or.inl ⟨by rfl, ?_⟩
            intro w hSw
            (try dsimp only at hSw)
            go_simp
          try simp only [Act.put, List.setIfInBounds_toArray, List.set_cons_zero, List.set_cons_succ]
          refine wpAnyH_take (i := 1) (oi := ?oi1) (v := (.bool sick)) ?hi1 (by kernel_rfl) (by kernel_rfl) (by kernel_rfl) ?hQ1 ?hy1 hHeld ?rest1
          case hi1 =>
            simp only [List.getElem?_toArray, List.getElem?_cons_succ, List.getElem?_cons_zero]
            rfl
          case hQ1 => exact fun _ _ _ h => h
          case hy1 =>
            refine Or.inl ⟨by rfl, ?_⟩
            intro w hSw
            (try dsimp only at hSw)
            go_simp
          try simp only [Act.put, List.setIfInBounds_toArray, List.set_cons_zero, List.set_cons_succ]
          refine wpAnyH_take (i := 2) (oi := ?oi2) (v := (.bool sick)) ?hi2 (by kernel_rfl) (by kernel_rfl) (by kernel_rfl) ?hQ2 ?hy2 hHeld ?rest2
          case hi2 =>
            simp only [List.getElem?_toArray, List.getElem?_cons_succ, List.getElem?_cons_zero]
            rfl
          case hQ2 => exact fun _ _ _ h => h
          case hy2 =>
            refine Or.inl ⟨by rfl, ?_⟩
            intro w hSw
            (try dsimp only at hSw)
            go_simp
          try simp only [Act.put, List.setIfInBounds_toArray, List.set_cons_zero, List.set_cons_succ]
          refine wpAnyH_take (i := 3) (oi := ?oi3) (v := (.bool true)) ?hi3 (by kernel_rfl) (by kernel_rfl) (by kernel_rfl) ?hQ3 ?hy3 hHeld ?rest3
          case hi3 =>
            simp only [List.getElem?_toArray, List.getElem?_cons_succ, List.getElem?_cons_zero]
            rfl
          case hQ3 => exact fun _ _ _ h => h
          case hy3 =>
            refine Or.inl ⟨by rfl, ?_⟩
            intro w hSw
            (try dsimp only at hSw)
            go_simp
          try simp only [Act.put, List.setIfInBounds_toArray, List.set_cons_zero, List.set_cons_succ]
          refine wpAnyH_take (i := 4) (oi := ?oi4) (v := (.bool true)) ?hi4 (by kernel_rfl) (by kernel_rfl) (by kernel_rfl) ?hQ4 ?hy4 hHeld ?rest4
          case hi4 =>
            simp only [List.getElem?_toArray, List.getElem?_cons_succ, List.getElem?_cons_zero]
            rfl
          case hQ4 => exact fun _ _ _ h => h
          case hy4 =>
            refine Or.inl ⟨by rfl, ?_⟩
            intro w hSw
            (try dsimp only at hSw)
            go_simp
          try simp only [Act.put, List.setIfInBounds_toArray, List.set_cons_zero, List.set_cons_succ]
          refine wpAnyH_take (i := 5) (oi := ?oi5) (v := (.pointer (some ⟨b, 0, none⟩))) ?hi5 (by kernel_rfl) (by kernel_rfl) (by kernel_rfl) ?hQ5 ?hy5 hHeld ?rest5
          case hi5 =>
            simp only [List.getElem?_toArray, List.getElem?_cons_succ, List.getElem?_cons_zero]
            rfl
          case hQ5 => exact fun _ _ _ h => h
          case hy5 =>
            refine Or.inl ⟨by rfl, ?_⟩
            intro w hSw
            (try dsimp only at hSw)
            go_simp
          try simp only [Act.put, List.setIfInBounds_toArray, List.set_cons_zero, List.set_cons_succ]
          refine wpAnyH_take (i := 6) (oi := ?oi6) (v := (.agg #[.bool sick, .bool out, .int .i64 til, .int .i64 row, .int .i64 times])) ?hi6 (by kernel_rfl) (by kernel_rfl) (by kernel_rfl) ?hQ6 ?hy6 hHeld ?rest6
          case hi6 =>
            simp only [List.getElem?_toArray, List.getElem?_cons_succ, List.getElem?_cons_zero]
            rfl
          case hQ6 => exact fun _ _ _ h => h
          case hy6 =>
            refine Or.inl ⟨by rfl, ?_⟩
            intro w hSw
            (try dsimp only at hSw)
            go_simp
          try simp only [Act.put, List.setIfInBounds_toArray, List.set_cons_zero, List.set_cons_succ]
          refine wpAnyH_take (i := 8) (oi := ?oi8) (v := (.pointer (some ⟨b, 0, none⟩))) ?hi8 (by kernel_rfl) (by kernel_rfl) (by kernel_rfl) ?hQ8 ?hy8 hHeld ?rest8
          case hi8 =>
            simp only [List.getElem?_toArray, List.getElem?_cons_succ, List.getElem?_cons_zero]
            rfl
          case hQ8 => exact fun _ _ _ h => h
          case hy8 =>
            refine Or.inl ⟨by rfl, ?_⟩
            intro w hSw
            (try dsimp only at hSw)
            go_simp
          try simp only [Act.put, List.setIfInBounds_toArray, List.set_cons_zero, List.set_cons_succ]
          refine wpAnyH_take (i := 9) (oi := ?oi9) (v := (.pointer (some ⟨b, 0, none⟩))) ?hi9 (by kernel_rfl) (by kernel_rfl) (by kernel_rfl) ?hQ9 ?hy9 hHeld ?rest9
          case hi9 =>
            simp only [List.getElem?_toArray, List.getElem?_cons_succ, List.getElem?_cons_zero]
            rfl
          case hQ9 => exact fun _ _ _ h => h
          case hy9 =>
            refine Or.inl ⟨by rfl, ?_⟩
            intro w hSw
            (try dsimp only at hSw)
            go_simp
          try simp only [Act.put, List.setIfInBounds_toArray, List.set_cons_zero, List.set_cons_succ]
          refine wpAnyH_take (i := 10) (oi := ?oi10) (v := (.pointer (some ⟨b, 4, none⟩))) ?hi10 (by kernel_rfl) (by kernel_rfl) (by kernel_rfl) ?hQ10 ?hy10 hHeld ?rest10
          case hi10 =>
            simp only [List.getElem?_toArray, List.getElem?_cons_succ, List.getElem?_cons_zero]
            rfl
          case hQ10 => exact fun _ _ _ h => h
          case hy10 =>
            refine Or.inl ⟨by rfl, ?_⟩
            intro w hSw
            (try dsimp only at hSw)
            go_simp
          try simp only [Act.put, List.setIfInBounds_toArray, List.set_cons_zero, List.set_cons_succ]
          refine wpAnyH_take (i := 11) (oi := ?oi11) (v := (.int .i64 last)) ?hi11 (by kernel_rfl) (by kernel_rfl) (by kernel_rfl) ?hQ11 ?hy11 hHeld ?rest11
          case hi11 =>
            simp only [List.getElem?_toArray, List.getElem?_cons_succ, List.getElem?_cons_zero]
            rfl
          case hQ11 => exact fun _ _ _ h => h
          case hy11 =>
            refine Or.inl ⟨by rfl, ?_⟩
            intro w hSw
            (try dsimp only at hSw)
            go_simp
          try simp only [Act.put, List.setIfInBounds_toArray, List.set_cons_zero, List.set_cons_succ]
          refine wpAnyH_ready (rs := [7]) (by kernel_rfl) (by simp) ?_
          refine AllReadyH.cons rfl (fun K hK => ?_) AllReadyH.nil
          go_simp
          (go_at_call 42; (with_reducible refine (when_any b g every timeout up down last hs _ (HSA.out.frame (F := []) (by first | exact Chg.refl [] _ | exact (Chg.refl [] _).drew | exact (Chg.refl [] _).drewN _) (by simp) (by simp)) ht ⟨sick, out, til, row, times⟩ q0 q1).mono ?_); rintro e w3 ⟨rfl, hc⟩; have hc2 := Chg.trans (F := []) (a := wa) (by first | exact Chg.refl [] _ | exact (Chg.refl [] _).drew | exact (Chg.refl [] _).drewN _) hc.out (by simp); have hq := HBA.out.chg hc2 (by simp); have hr := HSA.out.frame hc2 (by simp) (by simp); have b0 := hq.cell 0 _ rfl; have b1 := hq.cell 1 _ rfl; have b2 := hq.cell 2 _ rfl; have b3 := hq.cell 3 _ rfl; have b4 := hq.cell 4 _ rfl; have c4 := hr.num.cell 4 _ rfl; have c0 := hr.num.cell 0 _ rfl; have HC2 := Lib.hid hc2; clear hc hc2 hq hr; rw [HTV.out])
          go_wp2_with fail
          refine hK.out _ _ ⟨b0, b1, b2, b3, b4, c4, c0⟩ (fun hHeld => ?_)
          clear hK K
          try simp only [Act.put, List.setIfInBounds_toArray, List.set_cons_zero, List.set_cons_succ]
          refine wpAnyH_take (i := 12) (oi := ?oi12) (v := (.bool false)) ?hi12 (by kernel_rfl) (by kernel_rfl) (by kernel_rfl) ?hQ12 ?hy12 hHeld ?rest12
          case hi12 =>
            simp only [List.getElem?_toArray, List.getElem?_cons_succ, List.getElem?_cons_zero]
            rfl
          case hQ12 => exact fun _ _ _ h => h
          case hy12 =>
            refine Or.inl ⟨by rfl, ?_⟩
            intro w hSw
            (try dsimp only at hSw)
            go_simp
          try simp only [Act.put, List.setIfInBounds_toArray, List.set_cons_zero, List.set_cons_succ]
          refine wpAnyH_take (i := 13) (oi := ?oi13) (v := (.bool false)) ?hi13 (by kernel_rfl) (by kernel_rfl) (by kernel_rfl) ?hQ13 ?hy13 hHeld ?rest13
          case hi13 =>
            simp only [List.getElem?_toArray, List.getElem?_cons_succ, List.getElem?_cons_zero]
            rfl
          case hQ13 => exact fun _ _ _ h => h
          case hy13 =>
            refine Or.inl ⟨by rfl, ?_⟩
            intro w hSw
            (try dsimp only at hSw)
            go_simp
          try simp only [Act.put, List.setIfInBounds_toArray, List.set_cons_zero, List.set_cons_succ]
          refine wpAnyH_take (i := 14) (oi := ?oi14) (v := (.bool false)) ?hi14 (by kernel_rfl) (by kernel_rfl) (by kernel_rfl) ?hQ14 ?hy14 hHeld ?rest14
          case hi14 =>
            simp only [List.getElem?_toArray, List.getElem?_cons_succ, List.getElem?_cons_zero]
            rfl
          case hQ14 => exact fun _ _ _ h => h
          case hy14 =>
            refine Or.inl ⟨by rfl, ?_⟩
            intro w hSw
            (try dsimp only at hSw)
            go_simp
          try simp only [Act.put, List.setIfInBounds_toArray, List.set_cons_zero, List.set_cons_succ]
          refine wpAnyH_take (i := 15) (oi := ?oi15) (v := undef) ?hi15 (by kernel_rfl) (by kernel_rfl) (by kernel_rfl) ?hQ15 ?hy15 hHeld ?rest15
          case hi15 =>
            simp only [List.getElem?_toArray, List.getElem?_cons_succ, List.getElem?_cons_zero]
            rfl
          case hQ15 => exact fun _ _ _ h => h
          case hy15 => exact Or.inr ⟨by rfl, rfl⟩
          try simp only [Act.put, List.setIfInBounds_toArray, List.set_cons_zero, List.set_cons_succ]
          refine wpAnyH_take (i := 16) (oi := ?oi16) (v := undef) ?hi16 (by kernel_rfl) (by kernel_rfl) (by kernel_rfl) ?hQ16 ?hy16 hHeld ?rest16
          case hi16 =>
            simp only [List.getElem?_toArray, List.getElem?_cons_succ, List.getElem?_cons_zero]
            rfl
          case hQ16 => exact fun _ _ _ h => h
          case hy16 => exact Or.inr ⟨by rfl, rfl⟩
          try simp only [Act.put, List.setIfInBounds_toArray, List.set_cons_zero, List.set_cons_succ]
          refine wpAnyH_take (i := 17) (oi := ?oi17) (v := undef) ?hi17 (by kernel_rfl) (by kernel_rfl) (by kernel_rfl) ?hQ17 ?hy17 hHeld ?rest17
          case hi17 =>
            simp only [List.getElem?_toArray, List.getElem?_cons_succ, List.getElem?_cons_zero]
            rfl
          case hQ17 => exact fun _ _ _ h => h
          case hy17 => exact Or.inr ⟨by rfl, rfl⟩
          try simp only [Act.put, List.setIfInBounds_toArray, List.set_cons_zero, List.set_cons_succ]
          refine wpAnyH_take (i := 18) (oi := ?oi18) (v := undef) ?hi18 (by kernel_rfl) (by kernel_rfl) (by kernel_rfl) ?hQ18 ?hy18 hHeld ?rest18
          case hi18 =>
            simp only [List.getElem?_toArray, List.getElem?_cons_succ, List.getElem?_cons_zero]
            rfl
          case hQ18 => exact fun _ _ _ h => h
          case hy18 => exact Or.inr ⟨by rfl, rfl⟩
          try simp only [Act.put, List.setIfInBounds_toArray, List.set_cons_zero, List.set_cons_succ]
          refine wpAnyH_take (i := 19) (oi := ?oi19) (v := undef) ?hi19 (by kernel_rfl) (by kernel_rfl) (by kernel_rfl) ?hQ19 ?hy19 hHeld ?rest19
          case hi19 =>
            simp only [List.getElem?_toArray, List.getElem?_cons_succ, List.getElem?_cons_zero]
            rfl
          case hQ19 => exact fun _ _ _ h => h
          case hy19 => exact Or.inr ⟨by rfl, rfl⟩
          try simp only [Act.put, List.setIfInBounds_toArray, List.set_cons_zero, List.set_cons_succ]
          refine wpAnyH_take (i := 20) (oi := ?oi20) (v := undef) ?hi20 (by kernel_rfl) (by kernel_rfl) (by kernel_rfl) ?hQ20 ?hy20 hHeld ?rest20
          case hi20 =>
            simp only [List.getElem?_toArray, List.getElem?_cons_succ, List.getElem?_cons_zero]
            rfl
          case hQ20 => exact fun _ _ _ h => h
          case hy20 => exact Or.inr ⟨by rfl, rfl⟩
          try simp only [Act.put, List.setIfInBounds_toArray, List.set_cons_zero, List.set_cons_succ]
          refine wpAnyH_take (i := 21) (oi := ?oi21) (v := (.bool false)) ?hi21 (by kernel_rfl) (by kernel_rfl) (by kernel_rfl) ?hQ21 ?hy21 hHeld ?rest21
          case hi21 =>
            simp only [List.getElem?_toArray, List.getElem?_cons_succ, List.getElem?_cons_zero]
            rfl
          case hQ21 => exact fun _ _ _ h => h
          case hy21 =>
            refine Or.inl ⟨by rfl, ?_⟩
            intro w hSw
            (try dsimp only at hSw)
            go_simp
          try simp only [Act.put, List.setIfInBounds_toArray, List.set_cons_zero, List.set_cons_succ]
          refine wpAnyH_done (by kernel_rfl) ?_ _
          all_goals
            go_wp2_with fail
            go_roundw
            case rel => exact ⟨k + 1, by omega, by go_num, by rw [E1.out]; exact HOA.out.chg HC2.out (by simp), HF, HSA.out.frame HC2.out (by simp) (by simp), HCA.out.trans HC2.out (by simp)⟩
            case measure => simp [intOf]; omega
      · obtain rfl : runs = !sick := by
          cases sick <;> cases runs <;> first | rfl | exact absurd rfl hsr
        have hss : (sick == !sick) = false := by cases sick <;> rfl
        have hss2 : decide (sick = !sick) = false := by cases sick <;> rfl
        clear hsr
        have e1 : idxI (hit (!sick) every timeout last) (hs.take (k + 1)) 0 = idxI (hit (!sick) every timeout last) (hs.take k) 0 := by rw [take_snoc hs k _ HX.out, idxI_snoc, if_neg (by rw [(show hit (!sick) every timeout last _ = false by unfold hit; dsimp only; rw [hss]; rfl)]; simp)]; simp
        have E1 := Lib.hid e1
        clear e1
        go_upto_region 5 with fail
        have HSA := Lib.hid (HS.out.frame ((Chg.refl [] wr).alloc (.cells #[.bool sick, .bool out, .int .i64 til, .int .i64 row, .int .i64 times] 85)) (by simp) (by simp))
        have HOA := Lib.hid (HO.out.chg ((Chg.refl [] wr).alloc (.cells #[.bool sick, .bool out, .int .i64 til, .int .i64 row, .int .i64 times] 85)) (by simp))
        have HBA := Lib.hid (Blk.new wr [.bool sick, .bool out, .int .i64 til, .int .i64 row, .int .i64 times] 85)
        have HCA := Lib.hid (HC.out.alloc (.cells #[.bool sick, .bool out, .int .i64 til, .int .i64 row, .int .i64 times] 85))
        clear d0 d1 d2 d3 d4 c5 HS HO HC
        generalize wr.alloc (.cells #[.bool sick, .bool out, .int .i64 til, .int .i64 row, .int .i64 times] 85) = wa at *
        generalize wr.heap.size = p at *
        have b0 := HBA.out.cell 0 _ rfl
        have b1 := HBA.out.cell 1 _ rfl
        have b2 := HBA.out.cell 2 _ rfl
        have b3 := HBA.out.cell 3 _ rfl
        have b4 := HBA.out.cell 4 _ rfl
        have c4 := HSA.out.num.cell 4 _ rfl
        have c0 := HSA.out.num.cell 0 _ rfl
        go_quiet (fail)
        go_wp2_with fail
        go_roundw
        case rel => exact ⟨k + 1, by omega, by go_num, by rw [E1.out]; exact HOA.out.chg (((Chg.refl [] wa).drewN nq)) (by simp), HF, HSA.out.frame (((Chg.refl [] wa).drewN nq)) (by simp) (by simp), HCA.out.trans (((Chg.refl [] wa).drewN nq)) (by simp)⟩
        case measure => simp [intOf]; omega
    · have e : k = hs.length := by omega
      have E1 := Lib.hid (show hs.take k = hs by rw [e]; simp)
      rw [E1.out] at HO
      go_wp2_with fail
      go_ret
      exact ⟨_, rfl, HO.out, HF.out, HC.out⟩
end Go.Proofs.Yteaepadamhmknaa
