/- A budget's moments: slices of whole numbers that are read, cut from the front; and the contract of 'late'. -/
import Derived.Test.YtgaggimkkoopfaaT2
import Derived.Deep.RegionHeld3
import Derived.StillTailTactics
namespace Go.Proofs.Ytgaggimkkoopfaa
open Go.RowKit
set_option linter.unusedVariables false

/-- The list without what is at most fr at its front. -/
def lateL (zs : List Int) (fr : Int) : List Int := zs.dropWhile (fun t => decide (t ≤ fr))
/-- A slice value that reads as zs; its cells lie in blocks of Q. -/
def RoSl (w : World) (Q : Nat → Prop) (v : Value) (zs : List Int) : Prop :=
  ∃ (A : Option Addr) (cap : Nat), v = .slice A zs.length cap ∧ zs.length ≤ cap ∧ cap ≤ 9223372036854775807 ∧ (A = none → cap = 0) ∧
    ∀ x, A = some x → x.spot = none ∧ (zs ≠ [] → Q x.block ∧ ∀ i, i < zs.length → w.cell? ⟨x.block, x.off + i, none⟩ = some (.int .i64 (zs.getD i 0)))
/-- .. and it has no room behind its elements. -/
def RoTi (w : World) (Q : Nat → Prop) (v : Value) (zs : List Int) : Prop := RoSl w Q v zs ∧ ∃ A, v = .slice A zs.length zs.length
theorem RoSl.mono {w : World} {Q Q' : Nat → Prop} {v : Value} {zs : List Int} (h : RoSl w Q v zs) (hq : ∀ i, Q i → Q' i) : RoSl w Q' v zs := by
  obtain ⟨A, cap, rfl, h1, h2, h3, h4⟩ := h
  exact ⟨A, cap, rfl, h1, h2, h3, fun x hx => ⟨(h4 x hx).1, fun hz => ⟨hq _ ((h4 x hx).2 hz).1, ((h4 x hx).2 hz).2⟩⟩⟩
theorem RoSl.kept {w w' : World} {Q : Nat → Prop} {v : Value} {zs : List Int} (h : RoSl w Q v zs) (hk : ∀ i, Q i → i < w.heap.size → w'.heap[i]? = w.heap[i]?) : RoSl w' Q v zs := by
  obtain ⟨A, cap, rfl, h1, h2, h3, h4⟩ := h
  refine ⟨A, cap, rfl, h1, h2, h3, fun x hx => ⟨(h4 x hx).1, fun hz => ⟨((h4 x hx).2 hz).1, fun i hi => ?_⟩⟩⟩
  obtain ⟨hQ, hc⟩ := (h4 x hx).2 hz
  have hci := hc i hi
  exact (World.cell?_of_block (w := w) (a := ⟨x.block, x.off + i, none⟩) (hk _ hQ (World.block_lt_of_cell? w _ hci))).trans hci
theorem RoTi.kept {w w' : World} {Q : Nat → Prop} {v : Value} {zs : List Int} (h : RoTi w Q v zs) (hk : ∀ i, Q i → i < w.heap.size → w'.heap[i]? = w.heap[i]?) : RoTi w' Q v zs := ⟨h.1.kept hk, h.2⟩
theorem RoTi.nil (w : World) (Q : Nat → Prop) : RoTi w Q (.slice none 0 0) [] := ⟨⟨none, 0, rfl, by simp, by simp, by simp, by simp⟩, none, rfl⟩
theorem lateL_cons_yes {t : Int} {zs : List Int} {fr : Int} (h : t ≤ fr) : lateL (t :: zs) fr = lateL zs fr := by simp [lateL, h]
theorem lateL_cons_no {t : Int} {zs : List Int} {fr : Int} (h : ¬ t ≤ fr) : lateL (t :: zs) fr = t :: zs := by simp [lateL, h]
theorem drop_getD (zs : List Int) (k : Nat) (h : k < zs.length) : zs.drop k = zs.getD k 0 :: zs.drop (k + 1) := by
  rw [List.drop_eq_getElem_cons h]
  simp [List.getD_eq_getElem?_getD, h]
/-- What 'late' hands back. -/
def lateV (v : Value) (zs : List Int) (fr : Int) : Value :=
  match v with
  | .slice A _ _ => .slice (if zs.length = zs.length - (lateL zs fr).length then A else A.map (fun x => x.add ((zs.length - (lateL zs fr).length) * 1))) (lateL zs fr).length (lateL zs fr).length
  | v => v
theorem lateV_eq (A : Option Addr) (n cap : Nat) (zs : List Int) (k : Nat) (hk : k ≤ zs.length) (fr : Int) (hl : lateL zs fr = zs.drop k) :
    lateV (.slice A n cap) zs fr = .slice (if zs.length = k then A else A.map (fun x => x.add (k * 1))) (zs.length - k) (zs.length - k) := by
  have e : (lateL zs fr).length = zs.length - k := by rw [hl]; simp
  have e3 : zs.length - (zs.length - k) = k := by omega
  simp only [lateV, e, e3]
theorem lateL_drop (zs : List Int) (fr : Int) : ∃ k, k ≤ zs.length ∧ lateL zs fr = zs.drop k := by
  induction zs with
  | nil => exact ⟨0, by simp, by simp [lateL]⟩
  | cons t zs ih =>
    by_cases h : t ≤ fr
    · obtain ⟨k, hk, e⟩ := ih
      exact ⟨k + 1, by simp; omega, by rw [lateL_cons_yes h, e]; simp⟩
    · exact ⟨0, by simp, by rw [lateL_cons_no h]; rfl⟩
theorem lateV_ti {w : World} {Q : Nat → Prop} {v : Value} {zs : List Int} (h : RoSl w Q v zs) (fr : Int) : RoTi w Q (lateV v zs fr) (lateL zs fr) := by
  obtain ⟨k, hk, hl⟩ := lateL_drop zs fr
  obtain ⟨A, cap, rfl, h1, h2, h3, h4⟩ := h
  rw [lateV_eq A _ _ zs k hk fr hl, hl]
  have hlen : (zs.drop k).length = zs.length - k := by simp
  refine ⟨⟨if zs.length = k then A else A.map (fun x => x.add (k * 1)), zs.length - k, by rw [hlen], by omega, by omega, ?_, ?_⟩, if zs.length = k then A else A.map (fun x => x.add (k * 1)), by rw [hlen]⟩
  · split
    · intro _; omega
    · intro hn
      have : A = none := by simpa using hn
      have := h3 this
      omega
  · split
    · rename_i he
      intro x hx
      refine ⟨(h4 x hx).1, fun hz => ?_⟩
      exact absurd (List.drop_eq_nil_of_le (by omega)) hz
    · rename_i he
      intro y hy
      obtain ⟨x, hx, rfl⟩ := Option.map_eq_some_iff.1 hy
      obtain ⟨hs, hc⟩ := h4 x hx
      have hb : (x.add (k * 1)).block = x.block := by unfold Addr.add; split <;> rfl
      have ho : (x.add (k * 1)).off = x.off + k := by unfold Addr.add; split <;> simp_all
      have hp : (x.add (k * 1)).spot = none := by unfold Addr.add; split <;> simp_all
      refine ⟨hp, fun hz => ?_⟩
      have hz' : zs ≠ [] := by rintro rfl; simp at hz
      obtain ⟨hq, hc⟩ := hc hz'
      refine ⟨hb ▸ hq, fun i hi => ?_⟩
      rw [hlen] at hi
      have := hc (k + i) (by omega)
      rw [hb, ho, Nat.add_assoc, this]
      simp [List.getD_eq_getElem?_getD]
set_option maxHeartbeats 1000000 in
theorem late_any (v : Value) (zs : List Int) (Q : Nat → Prop) (fr : Int) (w : World) (h : RoSl w Q v zs) : Calls Try.prog 41 #[v, .int .i64 fr] w fun e w' => e = .returned (lateV v zs fr) ∧ w = w' := by
  have h0 := h
  obtain ⟨A, cap, rfl, h1, h2, h3, h4⟩ := h
  have H0 := Lib.hid h0
  have H4 := Lib.hid h4
  have H3 := Lib.hid h3
  clear h0 h4 h3
  go_enter Try.func41, Try.ntmps41
  go_wp2
  go_loop [5] (fun i => ∃ k : Nat, k ≤ zs.length ∧ i = .int .i64 k ∧ Hid (lateL zs fr = lateL (zs.drop k) fr)) (fun i => zs.length - (intOf i).toNat)
  case atStart => exact ⟨0, by omega, rfl, Lib.hid (by simp)⟩
  case round =>
    obtain ⟨k, hk, rfl, HL⟩ := hrel
    by_cases hlt : k < zs.length
    · obtain ⟨x, rfl⟩ : ∃ x, A = some x := by
        cases A with
        | none => have := H3.out rfl; omega
        | some x => exact ⟨x, rfl⟩
      obtain ⟨b, o, sp⟩ := x
      obtain ⟨hs, hc⟩ := H4.out _ rfl
      obtain rfl : sp = none := hs
      have hcell := (hc (by intro e; subst e; simp at hlt)).2 k hlt
      have HD := Lib.hid (drop_getD zs k hlt)
      clear hc
      dsimp only at hcell
      generalize zs.getD k 0 = t at *
      by_cases ht : t ≤ fr
      · have HQ := Lib.hid (show lateL zs fr = lateL (zs.drop (k + 1)) fr by rw [HL.out, HD.out, lateL_cons_yes ht])
        clear HL HD
        go_wp2
        go_round
        case rel => exact ⟨k + 1, by omega, by go_num, HQ⟩
        case measure => simp [intOf]; omega
      · have HQ := Lib.hid (show lateL zs fr = zs.drop k by rw [HL.out, HD.out, lateL_cons_no ht])
        clear HL HD
        go_wp2
        go_ret
        have hc := lateV_eq (some ⟨b, o, none⟩) zs.length cap zs k hk fr HQ.out
        rw [if_neg (by omega)] at hc
        simp only [Option.map_some, Nat.mul_one, Addr.add_lit] at hc
        rw [hc]
        exact ⟨rfl, rfl⟩
    · have e : k = zs.length := by omega
      have HQ := Lib.hid (show lateL zs fr = zs.drop k by rw [HL.out, e]; simp [lateL])
      have HC := Lib.hid (lateV_eq A zs.length cap zs k hk fr HQ.out)
      clear HQ
      subst e
      go_wp2
      go_ret
      rw [HC.out]
      simp
end Go.Proofs.Ytgaggimkkoopfaa
