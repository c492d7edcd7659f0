/- Layer 14 (route), the program: rank, cmp.Compare, cmp.Or. -/
import Derived.Test.YtjndgkbikhndoaaGreatDoorY8
namespace Go.Proofs.YtjndgkbikhndoaaGreatDoor
open Go.RowKit Go.ChangeShapes Go.WideShapes
set_option linter.unusedVariables false

def rankZ (m : ByteArray) : Int := if m.size = 0 then 0 else if Lib.hasPrefix m.data.toList [42, 46] = true then m.size else 1048576
theorem rank_any (m : Mt) (mv : Value) (w : World) (z : Int) (hz : rankZ m.host = z) :
    Calls Tryz.prog 43 #[.agg (maRow m mv).toArray] w fun e w' => e = .returned (.int .i64 z) ∧ Hid (Chg [] w w') := by
  obtain ⟨host, pre, ms, hd, va⟩ := m
  dsimp only at hz
  have HB0 := Lib.hid (Blk.new w (maRow ⟨host, pre, ms, hd, va⟩ mv) 24)
  have HC0 := Lib.hid ((Chg.refl [] w).alloc (.cells (maRow ⟨host, pre, ms, hd, va⟩ mv).toArray 24))
  have HP := Lib.hid (fun w => Tryz.strings_HasPrefix host ⟨#[42, 46]⟩ w)
  rw [star_list] at HP
  change Calls Tryz.prog 43 #[.agg #[.string host, .string pre, mv, .string hd, .string va]] w _
  go_enter Tryz.func43, Tryz.ntmps43
  go_upto_region 1 with fail
  change Hid (Blk (w.alloc (.cells #[.string host, .string pre, mv, .string hd, .string va] 24)) _ _ _) at HB0
  change Hid (Chg [] w (w.alloc (.cells #[.string host, .string pre, mv, .string hd, .string va] 24))) at HC0
  generalize w.alloc (.cells #[.string host, .string pre, mv, .string hd, .string va] 24) = W1 at HB0 HC0 ⊢
  generalize w.heap.size = b at HB0 ⊢
  have c0 := HB0.out.cell 0 _ rfl
  unfold rankZ at hz
  by_cases h0 : host.size = 0
  · rw [if_pos h0] at hz
    have he := emp_true h0
    have HR := Lib.hid hz.symm
    clear hz h0
    go_wp2
    go_ret
    exact ⟨by rw [HR.out]; rfl, HC0.out⟩
  · rw [if_neg h0] at hz
    have he := emp_false h0
    cases hp : Lib.hasPrefix host.data.toList [42, 46]
    · rw [hp] at HP hz
      rw [if_neg (by decide)] at hz
      have HR := Lib.hid hz.symm
      clear hz h0 hp
      go_wp2_with (go_at_call 66; (with_reducible refine (HP.out _).mono ?_); rintro e w' ⟨rfl, hw⟩; rw [hw]; clear hw)
      go_ret
      exact ⟨by rw [HR.out]; rfl, HC0.out⟩
    · rw [hp] at HP hz
      rw [if_pos rfl] at hz
      have HR := Lib.hid hz.symm
      clear hz h0 hp
      go_wp2_with (go_at_call 66; (with_reducible refine (HP.out _).mono ?_); rintro e w' ⟨rfl, hw⟩; rw [hw]; clear hw)
      go_ret
      exact ⟨by rw [HR.out]; rfl, HC0.out⟩
theorem nan_any (n : Int) (w : World) : Calls Tryz.prog 65 #[.int .i64 n] w fun e w' => e = .returned (.bool false) ∧ w = w' := by
  go_enter Tryz.func65, Tryz.ntmps65
  go_wp2
  go_ret
  exact ⟨by first | rfl | simp, rfl⟩
def cmpZ (a b : Int) : Int := if a < b then -1 else if b < a then 1 else 0
theorem cmp_any (a b : Int) (w : World) (z : Int) (hz : cmpZ a b = z) : Calls Tryz.prog 42 #[.int .i64 a, .int .i64 b] w fun e w' => e = .returned (.int .i64 z) ∧ w = w' := by
  unfold cmpZ at hz
  have H1 := Lib.hid (fun w => nan_any a w)
  have H2 := Lib.hid (fun w => nan_any b w)
  by_cases h1 : a < b
  · rw [if_pos h1] at hz
    have HR := Lib.hid hz.symm
    clear hz
    go_enter Tryz.func42, Tryz.ntmps42
    go_wp2_with (go_at_call 65; first | ((with_reducible refine (H1.out _).mono ?_); rintro e w' ⟨rfl, rfl⟩) | ((with_reducible refine (H2.out _).mono ?_); rintro e w' ⟨rfl, rfl⟩))
    go_ret
    exact ⟨by rw [HR.out]; rfl, rfl⟩
  · rw [if_neg h1] at hz
    by_cases h2 : b < a
    · rw [if_pos h2] at hz
      have HR := Lib.hid hz.symm
      clear hz
      go_enter Tryz.func42, Tryz.ntmps42
      go_wp2_with (go_at_call 65; first | ((with_reducible refine (H1.out _).mono ?_); rintro e w' ⟨rfl, rfl⟩) | ((with_reducible refine (H2.out _).mono ?_); rintro e w' ⟨rfl, rfl⟩))
      go_ret
      exact ⟨by rw [HR.out]; rfl, rfl⟩
    · rw [if_neg h2] at hz
      have HR := Lib.hid hz.symm
      clear hz
      go_enter Tryz.func42, Tryz.ntmps42
      go_wp2_with (go_at_call 65; first | ((with_reducible refine (H1.out _).mono ?_); rintro e w' ⟨rfl, rfl⟩) | ((with_reducible refine (H2.out _).mono ?_); rintro e w' ⟨rfl, rfl⟩))
      go_ret
      exact ⟨by rw [HR.out]; rfl, rfl⟩
def orZ (zs : List Int) : Int := (zs.find? (fun z => decide (z ≠ 0))).getD 0
theorem orZ_hit {zs : List Int} {k : Nat} {x : Int} (h : zs[k]? = some x) (hx : x ≠ 0) (hb : ∀ (j : Nat) y, j < k → zs[j]? = some y → y = 0) : orZ zs = x := by
  unfold orZ
  have : zs.find? (fun z => decide (z ≠ 0)) = some x := by
    rw [List.find?_eq_some_iff_getElem]
    obtain ⟨hk, e⟩ := List.getElem?_eq_some_iff.1 h
    refine ⟨by simpa using hx, k, hk, e, fun j hj => ?_⟩
    have := hb j zs[j] hj (List.getElem?_eq_getElem (by omega))
    simp [this]
  rw [this]
  rfl
theorem orZ_none {zs : List Int} (hb : ∀ (j : Nat) y, j < zs.length → zs[j]? = some y → y = 0) : orZ zs = 0 := by
  unfold orZ
  have : zs.find? (fun z => decide (z ≠ 0)) = none := by
    rw [List.find?_eq_none]
    intro x hx
    obtain ⟨j, hj, e⟩ := List.getElem_of_mem hx
    have := hb j x hj (by rw [List.getElem?_eq_getElem hj, e])
    simp [this]
  rw [this]
  rfl
set_option maxHeartbeats 4000000 in
set_option maxRecDepth 100000 in
theorem or_any (v : Value) (zs : List Int) (w : World) (ht : Hid (Tbl w v 1 (intRows zs))) (hl : zs.length ≤ 1000) (z : Int) (hz : orZ zs = z) : Calls Tryz.prog 41 #[v] w fun e w' => e = .returned (.int .i64 z) ∧ w = w' := by
  have hlen : (intRows zs).length = zs.length := by unfold intRows; rw [List.length_map]
  obtain ⟨A, cap, rfl⟩ := ht.out.form
  rw [hlen] at ht ⊢
  have hcap := ht.out.cap
  have HLen := Lib.hid hlen
  have HZ := Lib.hid hz
  clear hlen hz
  go_enter Tryz.func41, Tryz.ntmps41
  go_wp2
  go_loopw [8] (fun i wr => ∃ k : Nat, i = .int .i64 k ∧ k ≤ zs.length ∧ Hid (∀ (j : Nat) y, j < k → zs[j]? = some y → y = 0) ∧ wr = w) (fun i _ => zs.length - (intOf i).toNat)
  case atStart => exact ⟨0, rfl, by omega, Lib.hid (fun j g hj => by omega), rfl⟩
  case round =>
    obtain ⟨k, rfl, hk, HN, rfl⟩ := hrel
    by_cases hlt : k < zs.length
    · obtain ⟨b, o, rfl, hbs, hx⟩ := ht.out.at1 (by rw [HLen.out]; omega)
      obtain ⟨x, hxk⟩ : ∃ x, zs[k]? = some x := ⟨_, List.getElem?_eq_getElem hlt⟩
      have c1 := hx k _ (by unfold intRows; rw [List.getElem?_map, hxk]; rfl)
      have HX := Lib.hid hxk
      clear hx hxk
      by_cases h0 : x = 0
      · subst h0
        have HN2 := Lib.hid (show ∀ (j : Nat) y, j < k + 1 → zs[j]? = some y → y = 0 from fun j y hj hy => by
          rcases Nat.lt_or_ge j k with q | q
          · exact HN.out j y q hy
          · obtain rfl : j = k := by omega
            rw [HX.out] at hy
            injection hy with hy
            exact hy.symm)
        go_wp2
        go_roundw
        case rel => exact ⟨k + 1, by go_num, by omega, HN2, by first | rfl | trivial⟩
        case measure => simp [intOf]; omega
      · have HR := Lib.hid (show z = x from by rw [← HZ.out]; exact orZ_hit HX.out h0 HN.out)
        have hq : (x == 0) = false := beq_eq_false_iff_ne.2 h0
        go_wp2
        go_ret
        exact ⟨by rw [HR.out]; rfl, rfl⟩
    · obtain rfl : k = zs.length := by omega
      have HR := Lib.hid (show z = 0 from by rw [← HZ.out]; exact orZ_none HN.out)
      go_wp2
      go_ret
      exact ⟨by rw [HR.out]; rfl, rfl⟩
end Go.Proofs.YtjndgkbikhndoaaGreatDoor
