/- Who may be used, both sides. -/
import Derived.Test.YteaepadamhmknaaH6
namespace Go.Proofs.Yteaepadamhmknaa
open Go.RowKit
set_option linter.unusedVariables false

/-- The numbers of those that may be used, the first of the list being number o. -/
def useI : List Ho → Nat → List Int
  | [], _ => []
  | x :: hs, o => if (!x.out && !x.sick) = true then (o : Int) :: useI hs (o + 1) else useI hs (o + 1)
theorem useI_snoc (hs : List Ho) (x : Ho) (o : Nat) : useI (hs ++ [x]) o = useI hs o ++ if (!x.out && !x.sick) = true then [((o + hs.length : Nat) : Int)] else [] := by
  induction hs generalizing o with
  | nil => simp [useI]
  | cons y hs ih =>
    rw [List.cons_append]
    unfold useI
    rw [ih (o + 1)]
    have e : o + 1 + hs.length = o + (y :: hs).length := by simp; omega
    rw [e]
    split <;> simp
theorem useI_len (hs : List Ho) (o : Nat) : (useI hs o).length ≤ hs.length := by
  induction hs generalizing o with
  | nil => simp [useI]
  | cons y hs ih =>
    unfold useI
    have := ih (o + 1)
    split <;> simp <;> omega
/-- What Usable leaves. -/
def UseP (T TH : Nat) (b g : Nat) (fails base long share L : Int) (hs : List Ho) (w : World) (e : Ending) (w' : World) : Prop :=
  ∃ v, e = .returned (.tuple #[v, .int .i64 0]) ∧ Own 3 w' v (useI hs 0) ∧ (∀ q, v.ownBlock = some q → w.heap.size ≤ q) ∧ Hst T TH w' b g fails base long share L hs ∧ Chg [b, g] w w'
theorem usable_nil (now : Int) (n0 : 0 ≤ now) (n1 : now ≤ 4611686018427387904) (w : World) : Calls Try.prog 16 #[.pointer none, .int .i64 now] w fun e w' => e = .returned (.tuple #[.slice none 0 0, .int .i64 0]) ∧ w = w' := by
  go_enter Try.func16, Try.ntmps16
  go_wp2_with (first | (go_at_call 18; (with_reducible refine (bring_nil now n0 n1 _).mono ?_); rintro e w' ⟨rfl, rfl⟩))
  go_ret2
  exact ⟨rfl, rfl⟩
theorem usable_bad (p : Option Addr) (now : Int) (h : now < 0 ∨ 4611686018427387904 < now) (w : World) : Calls Try.prog 16 #[.pointer p, .int .i64 now] w fun e w' => e = .returned (.tuple #[.slice none 0 0, .int .i64 1]) ∧ w = w' := by
  have HB := Lib.hid h
  clear h
  go_enter Try.func16, Try.ntmps16
  go_wp2_with (first | (go_at_call 18; (with_reducible refine (bring_bad p now HB.out _).mono ?_); rintro e w' ⟨rfl, rfl⟩))
  go_ret2
  exact ⟨rfl, rfl⟩
theorem rusable_bad (p : Option Addr) (now : Int) (h : now < 0 ∨ 4611686018427387904 < now) (w : World) : Calls Try.prog 38 #[.pointer p, .int .i64 now] w fun e w' => e = .returned (.tuple #[.slice none 0 0, .int .i64 1]) ∧ w = w' := by
  have HB := Lib.hid h
  clear h
  go_enter Try.func38, Try.ntmps38
  go_wp2_with (first | (go_at_call 37; (with_reducible refine (rbring_bad p now HB.out _).mono ?_); rintro e w' ⟨rfl, rfl⟩))
  go_ret2
  exact ⟨rfl, rfl⟩
set_option maxHeartbeats 4000000 in
set_option maxRecDepth 100000 in
theorem usable_any (b g : Nat) (fails base long share last now L : Int) (hs : List Ho) (w : World) (h : Hst 64 69 w b g fails base long share last hs) (hl : hs.length ≤ 16) (n0 : 0 ≤ now) (n1 : now ≤ 4611686018427387904) (hL : (L = now ∧ last < now) ∨ (L = last ∧ now ≤ last)) :
    Calls Try.prog 16 #[.pointer (some ⟨b, 0, none⟩), .int .i64 now] w (UseP 64 69 b g fails base long share L (hs.map (Ho.rst L)) w) := by
  have HH := Lib.hid h
  have HL := Lib.hid hL
  obtain ⟨i0, hi, hz0, hz1, hz2⟩ := info_parts info3
  have HI := Lib.hid (And.intro hi (And.intro hz0 (And.intro hz1 hz2)))
  have hb0 := h.num.lt
  have hg0 := Blk.lt h.recs
  clear hi hz0 hz1 hz2 h hL
  have hl' : (hs.map (Ho.rst L)).length ≤ 16 := by simpa using hl
  obtain ⟨hs', E⟩ : ∃ x, x = hs.map (Ho.rst L) := ⟨_, rfl⟩
  rw [← E] at hl' ⊢
  replace E := Lib.hid E
  have hl2 : (hs'.length : Int) ≤ 16 := by omega
  go_enter Try.func16, Try.ntmps16
  go_wp2_with fail
  refine (bring_any b g fails base long share last now L hs _ HH.out hl n0 n1 HL.out).mono ?_
  rintro e w1 ⟨v1, rfl, -, -, hst1, hc1⟩
  rw [← E.out] at hst1
  have c5 := hst1.num.cell 5 _ rfl
  have HST1 := Lib.hid hst1
  have HC1 := Lib.hid hc1
  clear hst1 hc1
  go_wp2_with fail
  go_loopw [8, 28] (fun v i wr => ∃ (k : Nat), k ≤ hs'.length ∧ i = .int .i64 k ∧ Hid (Own 3 wr v (useI (hs'.take k) 0)) ∧ Hid (∀ q, v.ownBlock = some q → w.heap.size ≤ q ∧ q ≠ b ∧ q ≠ g) ∧ Hid (Hst 64 69 wr b g fails base long share L hs') ∧ Hid (Chg [b, g] w wr)) (fun _ i _ => hs'.length - (intOf i).toNat)
  case atStart => exact ⟨0, by omega, rfl, Own.nil _ _, Lib.hid (by simp [Value.ownBlock]), HST1, HC1⟩
  case round =>
    clear c5 HST1 HC1
    obtain ⟨k, hk, rfl, HO, HF, HS, HC⟩ := hrel
    by_cases hkl : k < hs'.length
    · obtain ⟨x, hx⟩ : ∃ x, hs'[k]? = some x := ⟨_, List.getElem?_eq_getElem hkl⟩
      have c5 := HS.out.num.cell 5 _ rfl
      obtain ⟨d0, d1, d2, d3, d4⟩ := HS.out.host hx
      have HX := Lib.hid hx
      clear hx
      obtain ⟨sick, out, til, row, times⟩ := x
      dsimp only at d0 d1 d2 d3 d4
      cases out
      · cases sick
        · have e1 : useI (hs'.take (k + 1)) 0 = useI (hs'.take k) 0 ++ [((k : Nat) : Int)] := by
            rw [take_snoc hs' k _ HX.out, useI_snoc, if_pos (by rfl)]
            simp
            omega
          have E1 := Lib.hid e1
          have hlen : (useI (hs'.take k) 0).length ≤ 16 := by
            have h1 := useI_len (hs'.take k) 0
            have h2 : (hs'.take k).length ≤ k := List.length_take_le _ _
            omega
          clear e1
          obtain ⟨A, cp, rfl⟩ := HO.out.form
          go_upto_region 9 with fail
          go_wp2_with (at_builtin; refine wpList_append_own_at _ rfl _ _ 37 rfl 0 3 i0 (.int .i64 0) 1 8 Try.underlying37 HI.out.1 HI.out.2.1 HI.out.2.2.1 HI.out.2.2.2 rfl (by decide) (.slice A (useI (hs'.take k) 0).length cp) (useI (hs'.take k) 0).length ((useI (hs'.take k) 0).map (Value.int .i64)) rfl (HO.out.alloc _) ⟨wr.heap.size, 0, none⟩ 1 1 [.int .i64 k] rfl rfl (cell_one_new _ _ _) (by simp [Value.oneCell']) (by unfold maxLen; omega) (by omega) (Nat.zero_le _) ?_; intro v5 w5 hown hgrow _ hat)
          have hc5 : Chg (Value.slice A (useI (hs'.take k) 0).length cp).ownBlock.toList wr w5 := ((Chg.refl _ wr).alloc _).grown hgrow (by intro i hi _; simp [hi])
          have hsz : (wr.alloc (.cells #[.int .i64 k] 3)).heap.size = wr.heap.size + 1 := by simp
          have s4 := HC.out.size
          have hfr : ∀ q, v5.ownBlock = some q → w.heap.size ≤ q ∧ q ≠ b ∧ q ≠ g := by
            intro q hq
            rcases hat with hat | hat
            · exact HF.out q (by rw [← hat]; exact hq)
            · rw [hq] at hat
              injection hat with hat
              omega
          have hnb : ∀ q, (q = b ∨ q = g) → q ∉ (Value.slice A (useI (hs'.take k) 0).length cp).ownBlock.toList := by
            intro q hq hm
            have := HF.out q (by simpa using hm)
            omega
          have HS5 := Lib.hid (HS.out.frame hc5 (hnb b (.inl rfl)) (hnb g (.inr rfl)))
          have HC5 := Lib.hid (HC.out.trans hc5 (fun i hi hlt => by have := (HF.out i (by simpa using hi)).1; omega))
          have HO5 := Lib.hid (own_push hown)
          have HF5 := Lib.hid hfr
          clear hown hgrow hat hc5 hsz s4 hfr hnb
          go_roundw
          case rel => exact ⟨k + 1, by omega, by go_num, by rw [E1.out]; exact HO5, HF5, HS5, HC5⟩
          case measure => simp [intOf]; omega
        · have e1 : useI (hs'.take (k + 1)) 0 = useI (hs'.take k) 0 := by rw [take_snoc hs' k _ HX.out, useI_snoc]; simp
          have E1 := Lib.hid e1
          clear e1
          go_wp2_with fail
          go_roundw
          case rel => exact ⟨k + 1, by omega, by go_num, by rw [E1.out]; exact HO, HF, HS, HC⟩
          case measure => simp [intOf]; omega
      · have e1 : useI (hs'.take (k + 1)) 0 = useI (hs'.take k) 0 := by rw [take_snoc hs' k _ HX.out, useI_snoc]; simp
        have E1 := Lib.hid e1
        clear e1
        go_wp2_with fail
        go_roundw
        case rel => exact ⟨k + 1, by omega, by go_num, by rw [E1.out]; exact HO, HF, HS, HC⟩
        case measure => simp [intOf]; omega
    · have e : k = hs'.length := by omega
      have E1 := Lib.hid (show hs'.take k = hs' by rw [e]; simp)
      rw [E1.out] at HO
      go_wp2_with fail
      go_ret2
      exact ⟨_, rfl, HO.out, fun q hq => (HF.out q hq).1, HS.out, HC.out⟩
set_option maxHeartbeats 4000000 in
set_option maxRecDepth 100000 in
theorem rusable_any (b g : Nat) (fails base long share last now L : Int) (hs : List Ho) (w : World) (h : Hst 73 79 w b g fails base long share last hs) (hl : hs.length ≤ 16) (n0 : 0 ≤ now) (n1 : now ≤ 4611686018427387904) (hL : (L = now ∧ last < now) ∨ (L = last ∧ now ≤ last)) :
    Calls Try.prog 38 #[.pointer (some ⟨b, 0, none⟩), .int .i64 now] w (UseP 73 79 b g fails base long share L (hs.map (Ho.rst L)) w) := by
  have HH := Lib.hid h
  have HL := Lib.hid hL
  obtain ⟨i0, hi, hz0, hz1, hz2⟩ := info_parts info3
  have HI := Lib.hid (And.intro hi (And.intro hz0 (And.intro hz1 hz2)))
  have hb0 := h.num.lt
  have hg0 := Blk.lt h.recs
  clear hi hz0 hz1 hz2 h hL
  have hl' : (hs.map (Ho.rst L)).length ≤ 16 := by simpa using hl
  obtain ⟨hs', E⟩ : ∃ x, x = hs.map (Ho.rst L) := ⟨_, rfl⟩
  rw [← E] at hl' ⊢
  replace E := Lib.hid E
  have hl2 : (hs'.length : Int) ≤ 16 := by omega
  go_enter Try.func38, Try.ntmps38
  go_wp2_with fail
  refine (rbring_any b g fails base long share last now L hs _ HH.out hl n0 n1 HL.out).mono ?_
  rintro e w1 ⟨v1, rfl, -, -, hst1, hc1⟩
  rw [← E.out] at hst1
  have c5 := hst1.num.cell 5 _ rfl
  have HST1 := Lib.hid hst1
  have HC1 := Lib.hid hc1
  clear hst1 hc1
  go_wp2_with fail
  go_loopw [8, 25] (fun v i wr => ∃ (k : Nat), k ≤ hs'.length ∧ i = .int .i64 k ∧ Hid (Own 3 wr v (useI (hs'.take k) 0)) ∧ Hid (∀ q, v.ownBlock = some q → w.heap.size ≤ q ∧ q ≠ b ∧ q ≠ g) ∧ Hid (Hst 73 79 wr b g fails base long share L hs') ∧ Hid (Chg [b, g] w wr)) (fun _ i _ => hs'.length - (intOf i).toNat)
  case atStart => exact ⟨0, by omega, rfl, Own.nil _ _, Lib.hid (by simp [Value.ownBlock]), HST1, HC1⟩
  case round =>
    clear c5 HST1 HC1
    obtain ⟨k, hk, rfl, HO, HF, HS, HC⟩ := hrel
    by_cases hkl : k < hs'.length
    · obtain ⟨x, hx⟩ : ∃ x, hs'[k]? = some x := ⟨_, List.getElem?_eq_getElem hkl⟩
      have c5 := HS.out.num.cell 5 _ rfl
      obtain ⟨d0, d1, d2, d3, d4⟩ := HS.out.host hx
      have HX := Lib.hid hx
      clear hx
      obtain ⟨sick, out, til, row, times⟩ := x
      dsimp only at d0 d1 d2 d3 d4
      go_upto_region 8 with fail
      have hs1 := HC.out.size
      have HSA := Lib.hid (HS.out.frame ((Chg.refl [] wr).alloc (.cells #[.bool sick, .bool out, .int .i64 til, .int .i64 row, .int .i64 times] 79)) (by simp) (by simp))
      have HOA := Lib.hid (HO.out.chg ((Chg.refl [] wr).alloc (.cells #[.bool sick, .bool out, .int .i64 til, .int .i64 row, .int .i64 times] 79)) (by simp))
      have HBA := Lib.hid (Blk.new wr [.bool sick, .bool out, .int .i64 til, .int .i64 row, .int .i64 times] 79)
      have HCA := Lib.hid (HC.out.alloc (.cells #[.bool sick, .bool out, .int .i64 til, .int .i64 row, .int .i64 times] 79))
      clear c5 d0 d1 d2 d3 d4 HS HC HO hs1
      generalize wr.alloc (.cells #[.bool sick, .bool out, .int .i64 til, .int .i64 row, .int .i64 times] 79) = wa at *
      generalize wr.heap.size = p at *
      clear wr
      have b0 := HBA.out.cell 0 _ rfl
      have b1 := HBA.out.cell 1 _ rfl
      cases out
      · cases sick
        · have e1 : useI (hs'.take (k + 1)) 0 = useI (hs'.take k) 0 ++ [((k : Nat) : Int)] := by
            rw [take_snoc hs' k _ HX.out, useI_snoc, if_pos (by rfl)]
            simp
            omega
          have E1 := Lib.hid e1
          have hlen : (useI (hs'.take k) 0).length ≤ 16 := by
            have h1 := useI_len (hs'.take k) 0
            have h2 : (hs'.take k).length ≤ k := List.length_take_le _ _
            omega
          clear e1
          obtain ⟨A, cp, rfl⟩ := HOA.out.form
          go_upto_region 9 with fail
          go_wp2_with (at_builtin; refine wpList_append_own_at _ rfl _ _ 37 rfl 0 3 i0 (.int .i64 0) 1 8 Try.underlying37 HI.out.1 HI.out.2.1 HI.out.2.2.1 HI.out.2.2.2 rfl (by decide) (.slice A (useI (hs'.take k) 0).length cp) (useI (hs'.take k) 0).length ((useI (hs'.take k) 0).map (Value.int .i64)) rfl (HOA.out.alloc _) ⟨wa.heap.size, 0, none⟩ 1 1 [.int .i64 k] rfl rfl (cell_one_new _ _ _) (by simp [Value.oneCell']) (by unfold maxLen; omega) (by omega) (Nat.zero_le _) ?_; intro v5 w5 hown hgrow _ hat)
          have hc5 : Chg (Value.slice A (useI (hs'.take k) 0).length cp).ownBlock.toList wa w5 := ((Chg.refl _ wa).alloc _).grown hgrow (by intro i hi _; simp [hi])
          have hsz : (wa.alloc (.cells #[.int .i64 k] 3)).heap.size = wa.heap.size + 1 := by simp
          have s4 := HCA.out.size
          have hfr : ∀ q, v5.ownBlock = some q → w.heap.size ≤ q ∧ q ≠ b ∧ q ≠ g := by
            intro q hq
            rcases hat with hat | hat
            · exact HF.out q (by rw [← hat]; exact hq)
            · rw [hq] at hat
              injection hat with hat
              omega
          have hnb : ∀ q, (q = b ∨ q = g) → q ∉ (Value.slice A (useI (hs'.take k) 0).length cp).ownBlock.toList := by
            intro q hq hm
            have := HF.out q (by simpa using hm)
            omega
          have HS5 := Lib.hid (HSA.out.frame hc5 (hnb b (.inl rfl)) (hnb g (.inr rfl)))
          have HC5 := Lib.hid (HCA.out.trans hc5 (fun i hi hlt => by have := (HF.out i (by simpa using hi)).1; omega))
          have HO5 := Lib.hid (own_push hown)
          have HF5 := Lib.hid hfr
          clear hown hgrow hat hc5 hsz s4 hfr hnb
          go_roundw
          case rel => exact ⟨k + 1, by omega, by go_num, by rw [E1.out]; exact HO5, HF5, HS5, HC5⟩
          case measure => simp [intOf]; omega
        · have e1 : useI (hs'.take (k + 1)) 0 = useI (hs'.take k) 0 := by rw [take_snoc hs' k _ HX.out, useI_snoc]; simp
          have E1 := Lib.hid e1
          clear e1
          go_wp2_with fail
          go_roundw
          case rel => exact ⟨k + 1, by omega, by go_num, by rw [E1.out]; exact HOA, HF, HSA, HCA⟩
          case measure => simp [intOf]; omega
      · have e1 : useI (hs'.take (k + 1)) 0 = useI (hs'.take k) 0 := by rw [take_snoc hs' k _ HX.out, useI_snoc]; simp
        have E1 := Lib.hid e1
        clear e1
        go_wp2_with fail
        go_roundw
        case rel => exact ⟨k + 1, by omega, by go_num, by rw [E1.out]; exact HOA, HF, HSA, HCA⟩
        case measure => simp [intOf]; omega
    · have e : k = hs'.length := by omega
      have E1 := Lib.hid (show hs'.take k = hs' by rw [e]; simp)
      rw [E1.out] at HO
      go_wp2_with fail
      go_ret2
      exact ⟨_, rfl, HO.out, fun q hq => (HF.out q hq).1, HS.out, HC.out⟩
end Go.Proofs.Yteaepadamhmknaa
