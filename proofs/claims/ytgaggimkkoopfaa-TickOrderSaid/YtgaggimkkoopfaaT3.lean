/- The least of all moments in a list: the program's and the reference's function come to the same. -/
import Derived.Test.YtgaggimkkoopfaaT2
namespace Go.Proofs.Ytgaggimkkoopfaa
open Go.RowKit

def momB (t : Int) : Bool := decide (0 ≤ t) && decide (t ≤ 4611686018427387904)
theorem momB_yes {t : Int} (h : momB t = true) : 0 ≤ t ∧ t ≤ 4611686018427387904 := by simpa [momB] using h
theorem momB_no {t : Int} (h : momB t = false) : t < 0 ∨ 4611686018427387904 < t := by
  simp [momB] at h
  omega
def fstep (p : Int × Bool) (t : Int) : Int × Bool := if momB t = true ∧ (p.2 = false ∨ t < p.1) then (t, true) else p
def firstOf (zs : List Int) : Int × Bool := zs.foldl fstep (0, false)
theorem firstOf_snoc (zs : List Int) (t : Int) : firstOf (zs ++ [t]) = fstep (firstOf zs) t := by simp [firstOf]
theorem take_succ_getD (zs : List Int) (k : Nat) (h : k < zs.length) : zs.take (k + 1) = zs.take k ++ [zs.getD k 0] := by
  rw [List.take_succ_eq_append_getElem h]
  simp [List.getD_eq_getElem?_getD, h]
/-- What it is: no moment and (0, false), or a least moment and true. -/
def IsFirst (zs : List Int) (p : Int × Bool) : Prop :=
  (p = (0, false) ∧ ∀ u ∈ zs, momB u = false) ∨ (p.2 = true ∧ p.1 ∈ zs ∧ momB p.1 = true ∧ ∀ u ∈ zs, momB u = true → p.1 ≤ u)
theorem isFirst_of (zs : List Int) : IsFirst zs (firstOf zs) := by
  have key : ∀ (ys xs : List Int) (p : Int × Bool), IsFirst xs p → IsFirst (xs ++ ys) (ys.foldl fstep p) := by
    intro ys
    induction ys with
    | nil => intro xs p h; simpa using h
    | cons t ys ih =>
      intro xs p h
      have : xs ++ t :: ys = (xs ++ [t]) ++ ys := by simp
      rw [this, List.foldl_cons]
      refine ih _ _ ?_
      unfold fstep
      rcases h with ⟨rfl, h⟩ | ⟨h1, h2, h3, h4⟩
      · cases ht : momB t
        · left
          simp
          refine fun u hu => ?_
          rcases hu with hu | rfl
          · exact h u hu
          · exact ht
        · right
          simp [ht]
          intro u hu hm
          rcases hu with hu | rfl
          · rw [h u hu] at hm; cases hm
          · omega
      · by_cases hc : momB t = true ∧ (p.2 = false ∨ t < p.1)
        · rw [if_pos hc]
          right
          have h5 : t < p.1 := by simpa [h1] using hc.2
          refine ⟨rfl, by simp, hc.1, fun u hu hm => ?_⟩
          simp at hu
          rcases hu with hu | rfl
          · have := h4 u hu hm
            simp; omega
          · simp
        · rw [if_neg hc]
          right
          refine ⟨h1, by simp [h2], h3, fun u hu hm => ?_⟩
          simp at hu
          rcases hu with hu | rfl
          · exact h4 u hu hm
          · simp [hm, h1] at hc
            omega
  have := key zs [] (0, false) (.inl ⟨rfl, by simp⟩)
  simpa [firstOf] using this
theorem isFirst_eq {zs : List Int} {p q : Int × Bool} (h : IsFirst zs p) (k : IsFirst zs q) : p = q := by
  rcases h with ⟨rfl, h⟩ | ⟨h1, h2, h3, h4⟩ <;> rcases k with ⟨rfl, k⟩ | ⟨k1, k2, k3, k4⟩
  · rfl
  · rw [h _ k2] at k3; cases k3
  · rw [k _ h2] at h3; cases h3
  · have a := h4 _ k2 k3
    have b := k4 _ h2 h3
    exact Prod.ext (by omega) (by rw [h1, k1])
theorem ret2 {a a' : Int} {b b' : Bool} (h : (a, b) = (a', b')) : Ending.returned (.tuple #[.int .i64 a, .bool b]) = .returned (.tuple #[.int .i64 a', .bool b']) := by
  injection h with h1 h2
  rw [h1, h2]
set_option maxHeartbeats 400000 in
theorem first_any (a : Option Addr) (n cap : Nat) (zs : List Int) (w : World) (hs : Ints w .i64 a n zs) (hn : n ≤ 9223372036854775807) :
    Calls Try.prog 13 #[.slice a n cap] w fun e w' => e = .returned (.tuple #[.int .i64 (firstOf zs).1, .bool (firstOf zs).2]) ∧ w = w' := by
  obtain ⟨hl, hx⟩ := hs
  obtain ⟨x, hx⟩ : ∃ x, 0 < n → a = some x ∧ ∀ i, i < n → w.cell? (x.add i) = some (.int .i64 (zs.getD i 0)) := by
    by_cases h : 0 < n
    · obtain ⟨x, h⟩ := hx h
      exact ⟨x, fun _ => h⟩
    · exact ⟨default, fun h' => absurd h' h⟩
  have HL := Lib.hid hl
  clear hl
  have HX := Lib.hid hx
  clear hx
  go_enter Try.func13, Try.ntmps13
  go_wp2
  go_loop [4, 5, 10] (fun least there i => ∃ k : Nat, k ≤ n ∧ i = .int .i64 k ∧ least = .int .i64 (firstOf (zs.take k)).1 ∧ there = .bool (firstOf (zs.take k)).2) (fun _ _ i => n - (intOf i).toNat)
  case atStart => exact ⟨0, by omega, rfl, rfl, rfl⟩
  case round =>
    obtain ⟨k, hk, rfl, rfl, rfl⟩ := hrel
    by_cases hlt : k < n
    · obtain ⟨rfl, hc⟩ := HX.out (by omega)
      have hcell := hc k hlt
      clear hc
      have HS := Lib.hid (show firstOf (zs.take (k + 1)) = fstep (firstOf (zs.take k)) (zs.getD k 0) by rw [take_succ_getD zs k (by rw [HL.out]; exact hlt), firstOf_snoc])
      generalize firstOf (zs.take k) = p at *
      generalize zs.getD k 0 = t at *
      obtain ⟨p1, p2⟩ := p
      dsimp only
      cases ht : momB t
      · have hm := momB_no ht
        have HQ := Lib.hid (show firstOf (zs.take (k + 1)) = (p1, p2) by rw [HS.out]; simp [fstep, ht])
        clear HS ht
        go_wp2_with ((go_at_call 36; (with_reducible refine (moment_no _ hm _).mono ?_); rintro e w' ⟨rfl, rfl⟩))
        go_round
        case rel => exact ⟨k + 1, by omega, by go_num, by rw [HQ.out], by rw [HQ.out]⟩
        case measure => simp [intOf]; omega
      · have hm := momB_yes ht
        obtain ⟨hm1, hm2⟩ := hm
        cases p2
        · have HQ := Lib.hid (show firstOf (zs.take (k + 1)) = (t, true) by rw [HS.out]; simp [fstep, ht])
          clear HS ht
          go_wp2_with ((go_at_call 36; (with_reducible refine (moment_yes _ hm1 hm2 _).mono ?_); rintro e w' ⟨rfl, rfl⟩))
          go_round
          case rel => exact ⟨k + 1, by omega, by go_num, by rw [HQ.out], by rw [HQ.out]⟩
          case measure => simp [intOf]; omega
        · by_cases hp : t < p1
          · have HQ := Lib.hid (show firstOf (zs.take (k + 1)) = (t, true) by rw [HS.out]; simp [fstep, ht, hp])
            clear HS ht
            go_wp2_with ((go_at_call 36; (with_reducible refine (moment_yes _ hm1 hm2 _).mono ?_); rintro e w' ⟨rfl, rfl⟩))
            go_round
            case rel => exact ⟨k + 1, by omega, by go_num, by rw [HQ.out], by rw [HQ.out]⟩
            case measure => simp [intOf]; omega
          · have HQ := Lib.hid (show firstOf (zs.take (k + 1)) = (p1, true) by rw [HS.out]; simp [fstep, ht, hp])
            clear HS ht
            go_wp2_with ((go_at_call 36; (with_reducible refine (moment_yes _ hm1 hm2 _).mono ?_); rintro e w' ⟨rfl, rfl⟩))
            go_round
            case rel => exact ⟨k + 1, by omega, by go_num, by rw [HQ.out], by rw [HQ.out]⟩
            case measure => simp [intOf]; omega
    · go_wp2
      go_ret2
      obtain rfl : k = n := by omega
      exact ⟨by rw [List.take_of_length_le (Nat.le_of_eq HL.out)]; rfl, rfl⟩
/-- The reference's test: no moment of the list comes ahead of the i-th one. -/
def leastTo (zs : List Int) (i k : Nat) : Bool := momB (zs.getD i 0) && decide (∀ j, j < k → momB (zs.getD j 0) = false ∨ zs.getD i 0 < zs.getD j 0 ∨ (zs.getD i 0 = zs.getD j 0 ∧ i ≤ j))
theorem leastTo_zero (zs : List Int) (i : Nat) : leastTo zs i 0 = momB (zs.getD i 0) := by simp [leastTo]
theorem leastTo_succ (zs : List Int) (i k : Nat) : leastTo zs i (k + 1) = (leastTo zs i k && (!momB (zs.getD k 0) || decide (zs.getD i 0 < zs.getD k 0) || (zs.getD i 0 == zs.getD k 0 && decide (i ≤ k)))) := by
  unfold leastTo
  rw [Bool.and_assoc]
  congr 1
  rw [Bool.eq_iff_iff]
  simp only [decide_eq_true_eq, Bool.and_eq_true, Bool.or_eq_true, Bool.not_eq_true', beq_iff_eq]
  constructor
  · intro h
    refine ⟨fun j hj => h j (by omega), ?_⟩
    rcases h k (by omega) with h | h | h
    · exact .inl (.inl h)
    · exact .inl (.inr h)
    · exact .inr h
  · rintro ⟨h, h'⟩ j hj
    by_cases e : j = k
    · subst e
      rcases h' with (h' | h') | h'
      · exact .inl h'
      · exact .inr (.inl h')
      · exact .inr (.inr h')
    · exact h j (by omega)
theorem isFirst_found {zs : List Int} {i : Nat} (hi : i < zs.length) (h : leastTo zs i zs.length = true) : firstOf zs = (zs.getD i 0, true) := by
  refine isFirst_eq (isFirst_of zs) (.inr ⟨rfl, ?_, ?_, ?_⟩)
  · simp [List.getD_eq_getElem?_getD, hi]
  · simp [leastTo] at h
    simpa using h.1
  · intro u hu hm
    obtain ⟨j, hj, rfl⟩ := List.mem_iff_getElem.1 hu
    simp only [leastTo, Bool.and_eq_true, decide_eq_true_eq] at h
    have := h.2 j hj
    have e : zs.getD j 0 = zs[j] := by simp [List.getD_eq_getElem?_getD, hj]
    rw [e] at this
    rw [hm] at this
    simp at this
    show zs.getD i 0 ≤ _
    rw [List.getD_eq_getElem?_getD]
    omega
theorem isFirst_none {zs : List Int} (h : ∀ i, i < zs.length → leastTo zs i zs.length = false) : firstOf zs = (0, false) := by
  rcases isFirst_of zs with ⟨h1, _⟩ | ⟨h1, h2, h3, h4⟩
  · exact h1
  · exfalso
    -- the first place of a least moment
    generalize (firstOf zs).1 = m at *
    obtain ⟨i, hi, hm⟩ := List.mem_iff_getElem.1 h2
    have hex : ∃ i, i < zs.length ∧ zs.getD i 0 = m := ⟨i, hi, by simp [List.getD_eq_getElem?_getD, hi, hm]⟩
    have key : ∀ n i, i < n → i < zs.length → zs.getD i 0 = m → ∃ j, j < zs.length ∧ zs.getD j 0 = m ∧ ∀ q, q < j → zs.getD q 0 ≠ m := by
      intro n
      induction n with
      | zero => intro i hi; omega
      | succ n ih =>
        intro i hin hi he
        by_cases hc : ∃ q, q < i ∧ zs.getD q 0 = m
        · obtain ⟨q, hq, he'⟩ := hc
          exact ih q (by omega) (by omega) he'
        · exact ⟨i, hi, he, fun q hq e => hc ⟨q, hq, e⟩⟩
    obtain ⟨i, hi, he⟩ := hex
    obtain ⟨j, hj, hjm, hfst⟩ := key (i + 1) i (by omega) hi he
    have hf := h j hj
    have : leastTo zs j zs.length = true := by
      simp only [leastTo, Bool.and_eq_true, decide_eq_true_eq]
      refine ⟨by rw [hjm]; exact h3, fun q hq => ?_⟩
      cases hq' : momB (zs.getD q 0)
      · exact .inl rfl
      · right
        have hle := h4 (zs.getD q 0) (by simp [List.getD_eq_getElem?_getD, hq]) hq'
        rw [hjm]
        by_cases e : zs.getD q 0 = m
        · right
          refine ⟨e.symm, ?_⟩
          rcases Nat.lt_or_ge q j with hlt | hge
          · exact absurd e (hfst q hlt)
          · exact hge
        · left; omega
    rw [hf] at this
    cases this
set_option maxHeartbeats 1000000 in
theorem rfirst_any (a : Option Addr) (n cap : Nat) (zs : List Int) (w : World) (hs : Ints w .i64 a n zs) (hn : n ≤ 9223372036854775807) :
    Calls Try.prog 14 #[.slice a n cap] w fun e w' => e = .returned (.tuple #[.int .i64 (firstOf zs).1, .bool (firstOf zs).2]) ∧ w = w' := by
  obtain ⟨hl, hx⟩ := hs
  obtain ⟨x, hx⟩ : ∃ x, 0 < n → a = some x ∧ ∀ i, i < n → w.cell? (x.add i) = some (.int .i64 (zs.getD i 0)) := by
    by_cases h : 0 < n
    · obtain ⟨x, h⟩ := hx h
      exact ⟨x, fun _ => h⟩
    · exact ⟨default, fun h' => absurd h' h⟩
  have HL := Lib.hid hl
  clear hl
  have HX := Lib.hid hx
  clear hx
  go_enter Try.func14, Try.ntmps14
  go_wp2
  go_loop [11] (fun i => ∃ k : Nat, k ≤ n ∧ i = .int .i64 k ∧ Hid (∀ j, j < k → leastTo zs j n = false)) (fun i => n - (intOf i).toNat)
  case atStart => exact ⟨0, by omega, rfl, Lib.hid (by intro j hj; omega)⟩
  case round =>
    obtain ⟨i, hi, rfl, HN⟩ := hrel
    by_cases hlt : i < n
    · obtain ⟨rfl, hc⟩ := HX.out (by omega)
      have HC := Lib.hid hc
      have hcell := hc i hlt
      clear hc HX
      have HZ := Lib.hid (leastTo_zero zs i)
      generalize ht : zs.getD i 0 = t at *
      have HTT := Lib.hid ht
      clear ht
      cases hm : momB t
      all_goals
        have HM := Lib.hid hm
        first
          | (have hmm := momB_yes hm)
          | (have hmm := momB_no hm)
        clear hm
        first
          | (obtain ⟨hm1, hm2⟩ := hmm
             go_wp2_with ((go_at_call 22; (with_reducible refine (rmoment_yes _ hm1 hm2 _).mono ?_); rintro e w' ⟨rfl, rfl⟩)))
          | (go_wp2_with ((go_at_call 22; (with_reducible refine (rmoment_no _ hmm _).mono ?_); rintro e w' ⟨rfl, rfl⟩)))
        go_loop [6, 20] (fun f q => ∃ m : Nat, m ≤ n ∧ q = .int .i64 m ∧ f = .bool (leastTo zs i m)) (fun _ q => n - (intOf q).toNat)
        case atStart => exact ⟨0, by omega, rfl, by rw [HZ.out, HM.out]⟩
        case round =>
          obtain ⟨m, hmn, rfl, rfl⟩ := hrel
          by_cases hml : m < n
          · have hcell2 := HC.out m hml
            have HS := Lib.hid (show leastTo zs i (m + 1) = (leastTo zs i m && (!momB (zs.getD m 0) || decide (t < zs.getD m 0) || (t == zs.getD m 0 && decide (i ≤ m)))) by rw [leastTo_succ, HTT.out])
            generalize zs.getD m 0 = u at *
            cases hb : leastTo zs i m
            · have HQ := Lib.hid (show leastTo zs i (m + 1) = false by rw [HS.out, hb]; rfl)
              clear hb HS
              go_wp2
              go_round
              case rel => exact ⟨m + 1, by omega, by go_num, by first | (rw [HQ.out]; done) | (rw [HQ.out]; simp; omega)⟩
              case measure => simp [intOf]; omega
            · cases hu : momB u
              · have HQ := Lib.hid (show leastTo zs i (m + 1) = true by rw [HS.out, hb, hu]; rfl)
                have hun := momB_no hu
                clear hb HS hu
                go_wp2_with ((go_at_call 22; (with_reducible refine (rmoment_no u hun _).mono ?_); rintro e w' ⟨rfl, rfl⟩))
                go_round
                case rel => exact ⟨m + 1, by omega, by go_num, by first | (rw [HQ.out]; done) | (rw [HQ.out]; simp; omega)⟩
                case measure => simp [intOf]; omega
              · obtain ⟨hu1, hu2⟩ := momB_yes hu
                by_cases h1 : t < u
                · have HQ := Lib.hid (show leastTo zs i (m + 1) = true by rw [HS.out, hb, hu]; simp [h1])
                  clear hb HS hu
                  go_wp2_with ((go_at_call 22; (with_reducible refine (rmoment_yes u hu1 hu2 _).mono ?_); rintro e w' ⟨rfl, rfl⟩))
                  go_round
                  case rel => exact ⟨m + 1, by omega, by go_num, by first | (rw [HQ.out]; done) | (rw [HQ.out]; simp; omega)⟩
                  case measure => simp [intOf]; omega
                · by_cases h2 : t = u
                  · have h3 : (t == u) = true := beq_iff_eq.2 h2
                    by_cases h4 : i ≤ m
                    · have HQ := Lib.hid (show leastTo zs i (m + 1) = true by rw [HS.out, hb, hu]; simp [h2, h4])
                      clear hb HS hu h2
                      go_wp2_with ((go_at_call 22; (with_reducible refine (rmoment_yes u hu1 hu2 _).mono ?_); rintro e w' ⟨rfl, rfl⟩))
                      go_round
                      case rel => exact ⟨m + 1, by omega, by go_num, by first | (rw [HQ.out]; done) | (rw [HQ.out]; simp; omega)⟩
                      case measure => simp [intOf]; omega
                    · have HQ := Lib.hid (show leastTo zs i (m + 1) = false by rw [HS.out, hb, hu]; simp [h2, h4])
                      clear hb HS hu h2
                      go_wp2_with ((go_at_call 22; (with_reducible refine (rmoment_yes u hu1 hu2 _).mono ?_); rintro e w' ⟨rfl, rfl⟩))
                      go_round
                      case rel => exact ⟨m + 1, by omega, by go_num, by first | (rw [HQ.out]; done) | (rw [HQ.out]; simp; omega)⟩
                      case measure => simp [intOf]; omega
                  · have h3 : (t == u) = false := beq_eq_false_iff_ne.2 h2
                    have HQ := Lib.hid (show leastTo zs i (m + 1) = false by rw [HS.out, hb, hu]; simp [h2, h1])
                    clear hb HS hu h2
                    go_wp2_with ((go_at_call 22; (with_reducible refine (rmoment_yes u hu1 hu2 _).mono ?_); rintro e w' ⟨rfl, rfl⟩))
                    go_round
                    case rel => exact ⟨m + 1, by omega, by go_num, by first | (rw [HQ.out]; done) | (rw [HQ.out]; simp; omega)⟩
                    case measure => simp [intOf]; omega
          · obtain rfl : m = n := by omega
            cases hb : leastTo zs i m
            · have HQ := Lib.hid (show ∀ j, j < i + 1 → leastTo zs j m = false by
                intro j hj
                by_cases e : j = i
                · rw [e]; exact hb
                · exact HN.out j (by omega))
              clear hb
              go_wp2
              go_round
              case rel => exact ⟨i + 1, by omega, by go_num, HQ⟩
              case measure => simp [intOf]; omega
            · have HQ := Lib.hid (show firstOf zs = (t, true) by rw [isFirst_found (i := i) (by rw [HL.out]; exact hlt) (by rw [HL.out]; exact hb), HTT.out])
              clear hb
              go_wp2
              go_ret2
              exact ⟨by rw [HQ.out]; rfl, rfl⟩
    · obtain rfl : i = n := by omega
      have HF := Lib.hid (isFirst_none (zs := zs) (by rw [HL.out]; exact HN.out))
      clear HN
      go_wp2
      go_ret2
      exact ⟨by rw [HF.out]; rfl, rfl⟩
end Go.Proofs.Ytgaggimkkoopfaa
