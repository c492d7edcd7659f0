/- Layer 13 (config), the program: what a list of numbers, or of texts, holds that it may not. -/
import Derived.Test.YtjndgkbikhndoaaGreatDoorV4
import Derived.Test.YtjndgkbikhndoaaGreatDoorE8
import Derived.Shelf.Abstract
namespace Go.Proofs.YtjndgkbikhndoaaGreatDoor
open Go.RowKit Go.ChangeShapes Go.WideShapes
set_option linter.unusedVariables false

def okH (m : Int) (h : Int) : Bool := decide (0 ≤ h) && decide (h < m)
theorem none_any (h m : Int) (p : Nat) (w : World) (hb : Hid (Blk w p [.int .i64 m] 3)) :
    Calls Tryz.prog 61 #[.int .i64 h, .pointer (some ⟨p, 0, none⟩)] w fun e w' => e = .returned (.bool (!okH m h)) ∧ Hid (Chg [] w w') := by
  have c0 := hb.out.cell 0 _ rfl
  by_cases h1 : h < 0
  · have HR := Lib.hid (show okH m h = false from by unfold okH; rw [decide_eq_false (by omega)]; rfl)
    go_enter Tryz.func61, Tryz.ntmps61
    go_wp2
    go_ret
    exact ⟨by rw [HR.out]; rfl, Chg.refl _ _⟩
  · have h2 : 0 ≤ h := by omega
    have HR := Lib.hid (show okH m h = decide (h < m) from by unfold okH; rw [decide_eq_true h2]; rfl)
    by_cases h3 : m ≤ h
    · have HQ := Lib.hid (show decide (h < m) = false from decide_eq_false (by omega))
      go_enter Tryz.func61, Tryz.ntmps61
      go_wp2
      go_ret
      exact ⟨by rw [HR.out, HQ.out]; rfl, Chg.refl _ _⟩
    · have HQ := Lib.hid (show decide (h < m) = true from decide_eq_true (by omega))
      go_enter Tryz.func61, Tryz.ntmps61
      go_wp2
      go_ret
      exact ⟨by rw [HR.out, HQ.out]; rfl, Chg.refl _ _⟩
set_option maxHeartbeats 8000000 in
set_option maxRecDepth 100000 in
theorem indexI_any (v : Value) (zs : List Int) (m : Int) (p : Nat) (w : World) (ht : Hid (Tbl w v 1 (intRows zs))) (hl : zs.length ≤ 1048576) (hb : Hid (Blk w p [.int .i64 m] 3)) :
    Calls Tryz.prog 90 #[v, .func (.func 61) #[] #[.pointer (some ⟨p, 0, none⟩)]] w fun e w' => (∃ i : Int, e = .returned (.int .i64 i) ∧ decide (0 ≤ i) = !zs.all (okH m)) ∧ Hid (Chg [] w w') := by
  have hlen : (intRows zs).length = zs.length := by unfold intRows; rw [List.length_map]
  obtain ⟨A, cap, rfl⟩ := ht.out.form
  rw [hlen] at ht ⊢
  have hcap := ht.out.cap
  have HLen := Lib.hid hlen
  clear hlen
  have eg : ∀ args w, (callFunc 61 args).run Tryz.prog w = .ok (.enter 61 args) w := enters_of Tryz.func61 (by kernel_rfl) rfl
  go_enter Tryz.func90, Tryz.ntmps90
  go_wp2
  go_loopw [8] (fun i wr => ∃ k : Nat, i = .int .i64 k ∧ k ≤ zs.length ∧ Hid (∀ (j : Nat) x, j < k → zs[j]? = some x → okH m x = true) ∧ Hid (Chg [] w wr)) (fun i _ => zs.length - (intOf i).toNat)
  case atStart => exact ⟨0, rfl, by omega, Lib.hid (fun j g hj => by omega), Chg.refl _ _⟩
  case round =>
    obtain ⟨k, rfl, hk, HN, HC⟩ := hrel
    by_cases hlt : k < zs.length
    · obtain ⟨b, o, rfl, hbs, hx⟩ := ht.out.at1 (by rw [HLen.out]; omega)
      obtain ⟨x, hxk⟩ : ∃ x, zs[k]? = some x := ⟨_, List.getElem?_eq_getElem hlt⟩
      have c1 := HC.out.cell (hx k _ (by unfold intRows; rw [List.getElem?_map, hxk]; rfl)) (by simp)
      have HX := Lib.hid hxk
      have hcall := (none_any x m p wr (Lib.hid (hb.out.chg HC.out (by simp))))
      clear hx hxk
      cases hin : okH m x
      · rw [hin] at hcall
        have HE := Lib.hid (show zs.all (okH m) = false from any_hit HX.out hin)
        clear hin
        go_wp2_with (go_at_fn 61; refine hcall.mono ?_; rintro e w2 ⟨rfl, H2⟩)
        go_ret
        exact ⟨⟨(k : Int), rfl, by rw [HE.out]; exact decide_eq_true (by omega)⟩, HC.out.trans H2.out (by simp)⟩
      · rw [hin] at hcall
        have HN2 := Lib.hid (next_good (p := okH m) HN.out HX.out hin)
        clear hin
        go_wp2_with (go_at_fn 61; refine hcall.mono ?_; rintro e w2 ⟨rfl, H2⟩)
        go_roundw
        case rel => exact ⟨k + 1, by go_num, by omega, HN2, HC.out.trans H2.out (by simp)⟩
        case measure => simp [intOf]; omega
    · obtain rfl : k = zs.length := by omega
      have HE := Lib.hid (show zs.all (okH m) = true from all_good HN.out)
      go_wp2
      go_ret
      exact ⟨⟨-1, rfl, by rw [HE.out]; rfl⟩, HC.out⟩
set_option maxHeartbeats 8000000 in
theorem containsI_any (v : Value) (zs : List Int) (m : Int) (p : Nat) (w : World) (ht : Hid (Tbl w v 1 (intRows zs))) (hl : zs.length ≤ 1048576) (hb : Hid (Blk w p [.int .i64 m] 3)) :
    Calls Tryz.prog 63 #[v, .func (.func 61) #[] #[.pointer (some ⟨p, 0, none⟩)]] w fun e w' => e = .returned (.bool (!zs.all (okH m))) ∧ Hid (Chg [] w w') := by
  have HI := Lib.hid (indexI_any v zs m p w ht hl hb)
  go_enter Tryz.func63, Tryz.ntmps63
  go_wp2_with fail
  refine HI.out.mono ?_
  rintro e w2 ⟨⟨i, rfl, hi⟩, H2⟩
  have HJ := Lib.hid hi
  clear hi
  go_wp2
  go_ret
  exact ⟨by rw [← HJ.out]; rfl, H2.out⟩
theorem notok_any (s : ByteArray) (w : World) (hs : s.size ≤ 1048576) :
    Calls Tryz.prog 86 #[.string s] w fun e w' => e = .returned (.bool (!E.tokB s)) ∧ Hid (Chg [] w w') := by
  go_enter Tryz.func86, Tryz.ntmps86
  go_wp2_with fail
  refine (E.token_any s _ hs).mono ?_
  rintro e w2 ⟨rfl, H2⟩
  go_wp2
  go_ret
  exact ⟨by first | rfl | simp, H2.out⟩
set_option maxHeartbeats 8000000 in
set_option maxRecDepth 100000 in
theorem indexS_any (v : Value) (zs : List ByteArray) (w : World) (ht : Hid (Tbl w v 1 (strRows zs))) (hl : zs.length ≤ 1048576) (hs : Hid (∀ t, t ∈ zs → t.size ≤ 1048576)) :
    Calls Tryz.prog 116 #[v, .func (.func 86) #[] #[]] w fun e w' => (∃ i : Int, e = .returned (.int .i64 i) ∧ decide (0 ≤ i) = !zs.all E.tokB) ∧ Hid (Chg [] w w') := by
  have hlen : (strRows zs).length = zs.length := by unfold strRows; rw [List.length_map]
  obtain ⟨A, cap, rfl⟩ := ht.out.form
  rw [hlen] at ht ⊢
  have hcap := ht.out.cap
  have HLen := Lib.hid hlen
  clear hlen
  have eg : ∀ args w, (callFunc 86 args).run Tryz.prog w = .ok (.enter 86 args) w := enters_of Tryz.func86 (by kernel_rfl) rfl
  go_enter Tryz.func116, Tryz.ntmps116
  go_wp2
  go_loopw [8] (fun i wr => ∃ k : Nat, i = .int .i64 k ∧ k ≤ zs.length ∧ Hid (∀ (j : Nat) x, j < k → zs[j]? = some x → E.tokB x = true) ∧ Hid (Chg [] w wr)) (fun i _ => zs.length - (intOf i).toNat)
  case atStart => exact ⟨0, rfl, by omega, Lib.hid (fun j g hj => by omega), Chg.refl _ _⟩
  case round =>
    obtain ⟨k, rfl, hk, HN, HC⟩ := hrel
    by_cases hlt : k < zs.length
    · obtain ⟨b, o, rfl, hbs, hx⟩ := ht.out.at1 (by rw [HLen.out]; omega)
      obtain ⟨x, hxk⟩ : ∃ x, zs[k]? = some x := ⟨_, List.getElem?_eq_getElem hlt⟩
      have c1 := HC.out.cell (hx k _ (by unfold strRows; rw [List.getElem?_map, hxk]; rfl)) (by simp)
      have HX := Lib.hid hxk
      have hcall := (notok_any x wr (hs.out x (List.mem_of_getElem? HX.out)))
      clear hx hxk
      cases hin : E.tokB x
      · rw [hin] at hcall
        have HE := Lib.hid (show zs.all (E.tokB) = false from any_hit HX.out hin)
        clear hin
        go_wp2_with (go_at_fn 86; refine hcall.mono ?_; rintro e w2 ⟨rfl, H2⟩)
        go_ret
        exact ⟨⟨(k : Int), rfl, by rw [HE.out]; exact decide_eq_true (by omega)⟩, HC.out.trans H2.out (by simp)⟩
      · rw [hin] at hcall
        have HN2 := Lib.hid (next_good (p := E.tokB) HN.out HX.out hin)
        clear hin
        go_wp2_with (go_at_fn 86; refine hcall.mono ?_; rintro e w2 ⟨rfl, H2⟩)
        go_roundw
        case rel => exact ⟨k + 1, by go_num, by omega, HN2, HC.out.trans H2.out (by simp)⟩
        case measure => simp [intOf]; omega
    · obtain rfl : k = zs.length := by omega
      have HE := Lib.hid (show zs.all (E.tokB) = true from all_good HN.out)
      go_wp2
      go_ret
      exact ⟨⟨-1, rfl, by rw [HE.out]; rfl⟩, HC.out⟩
set_option maxHeartbeats 8000000 in
theorem containsS_any (v : Value) (zs : List ByteArray) (w : World) (ht : Hid (Tbl w v 1 (strRows zs))) (hl : zs.length ≤ 1048576) (hs : Hid (∀ t, t ∈ zs → t.size ≤ 1048576)) :
    Calls Tryz.prog 89 #[v, .func (.func 86) #[] #[]] w fun e w' => e = .returned (.bool (!zs.all E.tokB)) ∧ Hid (Chg [] w w') := by
  have HI := Lib.hid (indexS_any v zs w ht hl hs)
  go_enter Tryz.func89, Tryz.ntmps89
  go_wp2_with fail
  refine HI.out.mono ?_
  rintro e w2 ⟨⟨i, rfl, hi⟩, H2⟩
  have HJ := Lib.hid hi
  clear hi
  go_wp2
  go_ret
  exact ⟨by rw [← HJ.out]; rfl, H2.out⟩
end Go.Proofs.YtjndgkbikhndoaaGreatDoor
