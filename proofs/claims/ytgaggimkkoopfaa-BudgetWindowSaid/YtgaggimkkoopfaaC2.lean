/- The plain law of layer 17: the program's lists are the reference's, cut; and the law on a nil budget. -/
import Derived.Test.YtgaggimkkoopfaaC1
import Derived.Test.YtgaggimkkoopfaaB9
import Derived.Test.YtgaggimkkoopfaaF
namespace Go.Proofs.Ytgaggimkkoopfaa
open Go.RowKit
set_option linter.unusedVariables false

theorem wfI {a : Int} (h : (Lit.int .i64 a).wf = true) : -9223372036854775808 ≤ a ∧ a ≤ 9223372036854775807 := by
  simp [Lit.wf, IntKind.min, IntKind.max, IntKind.signed, IntKind.bits] at h
  omega
/-- What is later than fr. -/
def flt (zs : List Int) (fr : Int) : List Int := zs.filter (fun t => decide (fr < t))
theorem flt_len (zs : List Int) (fr : Int) : (flt zs fr).length = cnt zs fr := rfl
theorem flt_flt (zs : List Int) (a b : Int) (h : a ≤ b) : flt (flt zs a) b = flt zs b := by
  unfold flt
  rw [List.filter_filter]
  refine List.filter_congr (fun t _ => ?_)
  by_cases h2 : b < t
  · have h3 : a < t := by omega
    simp [h2, h3]
  · simp [h2]
theorem lateL_sorted (zs : List Int) (fr : Int) (h : zs.Pairwise (· ≤ ·)) : lateL zs fr = flt zs fr := by
  induction zs with
  | nil => rfl
  | cons t zs ih =>
    have h1 := (List.pairwise_cons.1 h).1
    have h2 := (List.pairwise_cons.1 h).2
    by_cases ht : t ≤ fr
    · rw [lateL_cons_yes ht, ih h2]
      unfold flt
      rw [List.filter_cons_of_neg (by simp; omega)]
    · rw [lateL_cons_no ht]
      unfold flt
      rw [List.filter_cons_of_pos (by simp; omega)]
      congr 1
      refine (List.filter_eq_self.2 (fun u hu => ?_)).symm
      have := h1 u hu
      simp
      omega
/-- The program's moments are those of the reference that are of late. -/
structure PR (win last : Int) (q Q : List Int) : Prop where
  eq : q = flt Q (last - win)
  sorted : Q.Pairwise (· ≤ ·)
  le : ∀ t, t ∈ Q → t ≤ last
theorem PR.nil (win : Int) : PR win 0 [] [] := ⟨rfl, List.Pairwise.nil, by simp⟩
theorem PR.brought {win last L : Int} {q Q : List Int} (h : PR win last q Q) (hL : last ≤ L) : lateL q (L - win) = flt Q (L - win) := by
  have hs : (flt Q (last - win)).Pairwise (· ≤ ·) := h.sorted.filter _
  rw [h.eq, lateL_sorted _ _ hs, flt_flt _ _ _ (by omega)]
theorem PR.bring {win last L : Int} {q Q : List Int} (h : PR win last q Q) (hL : last ≤ L) : PR win L (lateL q (L - win)) Q :=
  ⟨h.brought hL, h.sorted, fun t ht => by have := h.le t ht; omega⟩
theorem PR.push {win L : Int} {q Q : List Int} (h : PR win L q Q) (hw : 1 ≤ win) : PR win L (q ++ [L]) (Q ++ [L]) := by
  refine ⟨?_, ?_, ?_⟩
  · unfold flt
    rw [List.filter_append, h.eq]
    have : decide (L - win < L) = true := decide_eq_true (by omega)
    simp [flt, this]
  · rw [List.pairwise_append]
    refine ⟨h.sorted, by simp, fun a ha b hb => ?_⟩
    obtain rfl : b = L := by simpa using hb
    exact h.le a ha
  · intro t ht
    rcases List.mem_append.1 ht with ht | ht
    · exact h.le t ht
    · obtain rfl : t = L := by simpa using ht
      exact Int.le_refl _
theorem can_rcan (p m : Int) (n k : Nat) : canB p m n k = rcanB p m n k := by
  unfold canB rcanB
  have h1 : decide ((k : Int) < m) = decide ((k : Int) + 1 ≤ m) := by
    rw [Bool.eq_iff_iff]; simp; omega
  have h2 : decide ((k : Int) < p * n / 100) = decide (((k : Int) + 1) * 100 ≤ p * n) := by
    generalize p * (n : Int) = x
    rw [Bool.eq_iff_iff]; simp; omega
  rw [h1, h2]
set_option maxHeartbeats 1000000 in
theorem budgetNil_walk (w : World) (now : Int) (wn : (Lit.int .i64 now).wf = true) : Calls Try.prog 11 #[.int .i64 now] w fun e w' => e = .returned (.bool true) ∧ Below w.heap.size w w' := by
  have hn := wfI wn
  clear wn
  by_cases h : now < 0 ∨ 4611686018427387904 < now
  · go_enter Try.func11, Try.ntmps11
    go_wp2_with (first | (go_at_call 32; (with_reducible refine (ballow_bad none now h _).mono ?_); rintro e w' ⟨rfl, hc⟩) | (go_at_call 34; (with_reducible refine (blate_bad none now h _).mono ?_); rintro e w' ⟨rfl, rfl⟩) | (go_at_call 30; (with_reducible refine (badmit_bad none now h _).mono ?_); rintro e w' ⟨rfl, rfl⟩) | (go_at_call 22; (with_reducible refine (rmoment_no now h _).mono ?_); rintro e w' ⟨rfl, rfl⟩) | (go_at_call 25; (with_reducible refine (bspeaks _).mono ?_); rintro e w' ⟨rfl, hbel⟩))
    go_ret
    exact ⟨rfl, hc.below.trans (hbel.mono hc.size)⟩
  · have h0 : 0 ≤ now := by omega
    have h1 : now ≤ 4611686018427387904 := by omega
    clear h
    go_enter Try.func11, Try.ntmps11
    go_wp2_with (first | (go_at_call 32; (with_reducible refine (ballow_nil now h0 h1 _).mono ?_); rintro e w' ⟨rfl, hc⟩) | (go_at_call 34; (with_reducible refine (blate_nil now h0 h1 _).mono ?_); rintro e w' ⟨rfl, rfl⟩) | (go_at_call 30; (with_reducible refine (badmit_nil now h0 h1 _).mono ?_); rintro e w' ⟨rfl, rfl⟩) | (go_at_call 22; (with_reducible refine (rmoment_yes now h0 h1 _).mono ?_); rintro e w' ⟨rfl, rfl⟩) | (go_at_call 25; (with_reducible refine (bspeaks _).mono ?_); rintro e w' ⟨rfl, hbel⟩))
    go_ret
    exact ⟨rfl, hc.below.trans (hbel.mono hc.size)⟩
end Go.Proofs.Ytgaggimkkoopfaa
