/- The reference's budget: what is told of a request or a retry. -/
import Derived.Test.YtgaggimkkoopfaaB8
namespace Go.Proofs.Ytgaggimkkoopfaa
open Go.RowKit
set_option linter.unusedVariables false

def RTold (b : Nat) (p m win last : Int) (rq rt : List Int) (F : List Nat) (v : Value) (w : World) (e : Ending) (w' : World) : Prop :=
  ∃ F', e = .returned v ∧ RSt w' b p m win last rq rt F' ∧ Chg F w w' ∧ ∀ i, i ∈ F' → i ∈ F ∨ w.heap.size ≤ i
/-- What stands behind an append to a row of the call's own. -/
theorem own_row {w2 w' : World} {v v' : Value} {q : List Int} {L : Int} {b : Nat} {F : List Nat} (hv : ∀ g, v.ownBlock = some g → g ∈ F ∧ g ≠ b) (hb : b < w2.heap.size) (hF : ∀ i, i ∈ F → i < w2.heap.size)
    (hown : w'.ownsRow 0 3 1 v' (q.length + 1) (q.map (Value.int .i64) ++ [.int .i64 L])) (hat : v'.ownBlock = v.ownBlock ∨ v'.ownBlock = some w2.heap.size) :
    ∃ g cap, v' = .slice (some ⟨g, 0, none⟩) (q.length + 1) cap ∧ g < w'.heap.size ∧ (g = w2.heap.size ∨ (g ∈ F ∧ v.ownBlock = some g)) ∧ g ≠ b ∧ Hid (RoW w' (fun i => i = g) v' (q ++ [L])) := by
  have h : w'.ownsRow 0 3 1 v' (q.length + 1) ((q ++ [L]).map (Value.int .i64)) := by simpa using hown
  obtain ⟨g, cap, e⟩ : ∃ g cap, v' = .slice (some ⟨g, 0, none⟩) (q.length + 1) cap := by
    rcases h.2 with ⟨_, h0⟩ | ⟨g, cap, cur, e, _⟩
    · omega
    · exact ⟨g, cap, e⟩
  subst e
  have hg : g < w'.heap.size := (h.lt g (by simp [Value.ownBlock])).2
  have h2 : g = w2.heap.size ∨ (g ∈ F ∧ v.ownBlock = some g) := by
    rcases hat with hat | hat
    · right
      have : v.ownBlock = some g := by rw [← hat]; simp [Value.ownBlock]
      exact ⟨(hv g this).1, this⟩
    · left
      simpa [Value.ownBlock] using hat
  refine ⟨g, cap, rfl, hg, h2, ?_, by rw [show q.length + 1 = (q ++ [L]).length by simp] at h ⊢; exact ⟨h, fun k hk => by simpa [Value.ownBlock] using hk.symm⟩⟩
  rcases h2 with h2 | h2
  · omega
  · exact (hv g h2.2).2
set_option maxHeartbeats 2000000 in
set_option maxRecDepth 100000 in
theorem radmit_any (b : Nat) (p m win last now L : Int) (rq rt : List Int) (F : List Nat) (w : World) (h : RSt w b p m win last rq rt F) (h0 : 0 ≤ last) (h1 : last ≤ 4611686018427387904) (n0 : 0 ≤ now) (n1 : now ≤ 4611686018427387904) (w0 : 0 ≤ win) (w1 : win ≤ 1000000) (hL : (L = now ∧ last < now) ∨ (L = last ∧ now ≤ last))
    (hn : rq.length < 100000) :
    Calls Try.prog 31 #[.pointer (some ⟨b, 0, none⟩), .int .i64 now] w (RTold b p m win L (rq ++ [L]) rt F (.int .i64 0) w) := by
  have K := Lib.hid (rlate_any b p m win last now L rq rt F w h h0 h1 n0 n1 w0 w1 hL)
  have g1 := cnt_le rq (L - win)
  unfold RLateP at K
  have hq2 : ((cnt rq (L - win) : Nat) : Int) < 100000 := by omega
  clear g1
  generalize ((cnt rq (L - win) : Nat) : Int) = c at *
  clear h hL
  obtain ⟨i0, hi, hz0, hz1, hz2⟩ := info_parts info3
  have HI := Lib.hid (And.intro hi (And.intro hz0 (And.intro hz1 hz2)))
  clear hi hz0 hz1 hz2
  go_enter Try.func31, Try.ntmps31
  go_wp2_with fail
  refine K.out.mono ?_
  rintro e w2 ⟨rfl, hb, hc⟩

  have HC := Lib.hid hc
  obtain ⟨hm, hl, v1, v2, hblk, hr1, hr2, hne⟩ := hb
  have HM := Lib.hid (And.intro hm hl)
  have HR1 := Lib.hid hr1
  have HR2 := Lib.hid hr2
  have HNE := Lib.hid hne
  have HB := Lib.hid hblk
  obtain ⟨A1, cap1, e1⟩ := hr1.slot.1
  subst e1
  have c3 := hblk.cell 3 _ rfl
  have c4 := hblk.cell 4 _ rfl
  have f4 := hblk.free 4
  have c4a : (w2.alloc (.cells #[.int .i64 L] 3)).cell? ⟨b, 4, none⟩ = some (.slice A1 rq.length cap1) := (hblk.alloc _).cell 4 _ rfl
  have HO := Lib.hid (hr1.kept (w' := (w2.alloc (.cells #[.int .i64 L] 3)).drew) (fun i hi hl => Below.heap_alloc _ _ _ hl)).1
  have HN := Lib.hid (show ∀ (j : Nat) (u : Value), [.int .i64 L][j]? = some u → (w2.alloc (.cells #[.int .i64 L] 3)).drew.cell? ((⟨w2.heap.size, 0, none⟩ : Addr).add j) = some u from by
    intro j u hu
    match j, hu with
    | 0, hu =>
      obtain rfl : .int .i64 L = u := by simpa using hu
      exact (Blk.new w2 [.int .i64 L] 3).cell 0 _ rfl)
  clear hc hblk hm hl K hr1 hr2 hne
  go_wp2_with fail
  go_region_law (first
    | (refine step_append_own rfl (.tmp 24) (.tmp 29) 22 rfl 3 i0 (.int .i64 0) 1 8 Try.underlying22 HI.out.1 HI.out.2.1 HI.out.2.2.1 HI.out.2.2.2 rfl (by decide) (.slice A1 rq.length cap1) rq.length (rq.map (Value.int .i64)) (by simp [Act.eval]) HO.out ⟨w2.heap.size, 0, none⟩ 1 1 [.int .i64 L] (by simp [Act.eval]) rfl HN.out (by intro u hu; simp at hu; subst hu; rfl) (by unfold maxLen; omega) (by omega) ?_
       intro v' w' hown hgrow hat
       obtain ⟨g, cap', rfl, hg2, hg3, hg4, HG⟩ := own_row (b := b) (F := F) (w2 := (w2.alloc (.cells #[.int .i64 L] 3)).drew) HR1.out.2 (by have := HB.out.lt; simp; omega) (fun i hi => by have := HM.out.2 i hi; simp; omega) hown hat
       have hcg : Chg ((Value.slice A1 rq.length cap1).ownBlock.toList) w2 w' := ((Chg.refl _ w2).alloc _).drew.grown hgrow (by intro k hk _; rw [hk]; simp)
       have HCG := Lib.hid hcg
       have hb' := HB.out.chg hcg (by intro hh; exact (HR1.out.2 b (by simpa using hh)).2 rfl)
       have HB' := Lib.hid hb'
       have c4' := hb'.cell 4 _ rfl
       have f4' := hb'.free 4
       have HG3 := Lib.hid hg3
       have HG4 := Lib.hid hg4
       clear hown hgrow hcg hb' hat hg3 hg4))
  all_goals
    go_wp2
    go_ret
    have hF : ∀ i, i ∈ (Value.slice A1 rq.length cap1).ownBlock.toList → i ∈ F := fun i hi => (HR1.out.2 i (by simpa using hi)).1
    have hgs : g = w2.heap.size + 1 ∨ (g ∈ F ∧ (Value.slice A1 rq.length cap1).ownBlock = some g) := by simpa using HG3.out
    have h1 := HCG.out.size
    have h2 := HC.out.size
    have ROW1 : RoW (w'.setCell ⟨b, 4, none⟩ (.slice (some ⟨g, 0, none⟩) (rq.length + 1) cap')) (fun i => i ∈ g :: F ∧ i ≠ b) (.slice (some ⟨g, 0, none⟩) (rq.length + 1) cap') (rq ++ [L]) :=
      (HG.out.mono (fun i hi => ⟨by simp [hi], by rw [hi]; exact HG4.out⟩)).kept (fun i hi _ => Below.heap_setCell _ _ _ _ (by simpa using hi.2))
    have ROW2 : RoW (w'.setCell ⟨b, 4, none⟩ (.slice (some ⟨g, 0, none⟩) (rq.length + 1) cap')) (fun i => i ∈ g :: F ∧ i ≠ b) v2 rt := by
      refine ((?_ : RoW w' (fun i => i ∈ F ∧ i ≠ b) v2 rt).kept (fun i hi _ => Below.heap_setCell _ _ _ _ (by simpa using hi.2))).mono (fun i hi => ⟨by simp [hi.1], hi.2⟩)
      have hk : RoW w2 (fun i => v2.ownBlock = some i) v2 rt := ⟨HR2.out.1, fun g hg => hg⟩
      have hk2 := hk.kept (w' := w') (fun i hi hl => HCG.out.block i hl (by
        intro hm
        have e1 : (Value.slice A1 rq.length cap1).ownBlock = some i := by simpa using hm
        have := HNE.out
        rcases this with this | this
        · rw [e1] at this; cases this
        · rw [e1, hi] at this; exact this rfl))
      exact ⟨hk2.1, HR2.out.2⟩
    have NE : (Value.slice (some ⟨g, 0, none⟩) (rq.length + 1) cap').ownBlock = none ∨ (Value.slice (some ⟨g, 0, none⟩) (rq.length + 1) cap').ownBlock ≠ v2.ownBlock := by
      right
      intro e
      have e2 : v2.ownBlock = some g := by rw [← e]; simp [Value.ownBlock]
      rcases hgs with hgs | hgs
      · have := HM.out.2 g (HR2.out.2 g e2).1
        omega
      · rcases HNE.out with h | h
        · rw [hgs.2] at h; cases h
        · rw [hgs.2, e2] at h; exact h rfl
    refine ⟨g :: F, rfl, ⟨by simp [HM.out.1], fun i hi => ?_, _, _, HB'.out.set 4 _, ROW1, ROW2, NE⟩, (HC.out.mono (by intro i hi; simp at hi; rw [hi]; exact HM.out.1)).trans (F' := F) ((HCG.out.mono hF).setCell (by intro _; exact HM.out.1) _) (fun i hi _ => hi), fun i hi => ?_⟩
    · rcases List.mem_cons.1 hi with rfl | hi
      · simpa using hg2
      · have := HM.out.2 i hi
        simp
        omega
    · rcases List.mem_cons.1 hi with rfl | hi
      · rcases hgs with hgs | hgs
        · right; omega
        · exact .inl hgs.1
      · exact .inl hi
set_option maxHeartbeats 2000000 in
set_option maxRecDepth 100000 in
theorem rallow_yes (b : Nat) (p m win last now L : Int) (rq rt : List Int) (F : List Nat) (w : World) (h : RSt w b p m win last rq rt F) (h0 : 0 ≤ last) (h1 : last ≤ 4611686018427387904) (n0 : 0 ≤ now) (n1 : now ≤ 4611686018427387904) (w0 : 0 ≤ win) (w1 : win ≤ 1000000) (hL : (L = now ∧ last < now) ∨ (L = last ∧ now ≤ last))
    (p0 : 0 ≤ p) (p1 : p ≤ 100) (hn : rq.length ≤ 100000) (ht : rt.length < 100000) (hy : rcanB p m (cnt rq (L - win)) (cnt rt (L - win)) = true) :
    Calls Try.prog 33 #[.pointer (some ⟨b, 0, none⟩), .int .i64 now] w (RTold b p m win L rq (rt ++ [L]) F (.tuple #[.bool true, .int .i64 0]) w) := by
  have K := Lib.hid (rcan_any b p m win last now L rq rt F w h h0 h1 n0 n1 w0 w1 hL p0 p1 hn (by omega))
  have g1 := cnt_le rq (L - win)
  have HY := Lib.hid hy
  clear hy g1
  clear h hL
  obtain ⟨i0, hi, hz0, hz1, hz2⟩ := info_parts info3
  have HI := Lib.hid (And.intro hi (And.intro hz0 (And.intro hz1 hz2)))
  clear hi hz0 hz1 hz2
  go_enter Try.func33, Try.ntmps33
  go_wp2_with fail
  refine K.out.mono ?_
  rintro e w2 ⟨rfl, hb, hc⟩
  rw [HY.out]
  have HC := Lib.hid hc
  obtain ⟨hm, hl, v1, v2, hblk, hr1, hr2, hne⟩ := hb
  have HM := Lib.hid (And.intro hm hl)
  have HR1 := Lib.hid hr1
  have HR2 := Lib.hid hr2
  have HNE := Lib.hid hne
  have HB := Lib.hid hblk
  obtain ⟨A2, cap2, e2⟩ := hr2.slot.1
  subst e2
  have c3 := hblk.cell 3 _ rfl
  have c4 := hblk.cell 5 _ rfl
  have f4 := hblk.free 5
  have c4a : (w2.alloc (.cells #[.int .i64 L] 3)).cell? ⟨b, 5, none⟩ = some (.slice A2 rt.length cap2) := (hblk.alloc _).cell 5 _ rfl
  have HO := Lib.hid (hr2.kept (w' := (w2.alloc (.cells #[.int .i64 L] 3)).drew) (fun i hi hl => Below.heap_alloc _ _ _ hl)).1
  have HN := Lib.hid (show ∀ (j : Nat) (u : Value), [.int .i64 L][j]? = some u → (w2.alloc (.cells #[.int .i64 L] 3)).drew.cell? ((⟨w2.heap.size, 0, none⟩ : Addr).add j) = some u from by
    intro j u hu
    match j, hu with
    | 0, hu =>
      obtain rfl : .int .i64 L = u := by simpa using hu
      exact (Blk.new w2 [.int .i64 L] 3).cell 0 _ rfl)
  clear hc hblk hm hl K hr1 hr2 hne
  go_wp2_with fail
  go_region_law (first
    | (refine step_append_own rfl (.tmp 21) (.tmp 26) 22 rfl 3 i0 (.int .i64 0) 1 8 Try.underlying22 HI.out.1 HI.out.2.1 HI.out.2.2.1 HI.out.2.2.2 rfl (by decide) (.slice A2 rt.length cap2) rt.length (rt.map (Value.int .i64)) (by simp [Act.eval]) HO.out ⟨w2.heap.size, 0, none⟩ 1 1 [.int .i64 L] (by simp [Act.eval]) rfl HN.out (by intro u hu; simp at hu; subst hu; rfl) (by unfold maxLen; omega) (by omega) ?_
       intro v' w' hown hgrow hat
       obtain ⟨g, cap', rfl, hg2, hg3, hg4, HG⟩ := own_row (b := b) (F := F) (w2 := (w2.alloc (.cells #[.int .i64 L] 3)).drew) HR2.out.2 (by have := HB.out.lt; simp; omega) (fun i hi => by have := HM.out.2 i hi; simp; omega) hown hat
       have hcg : Chg ((Value.slice A2 rt.length cap2).ownBlock.toList) w2 w' := ((Chg.refl _ w2).alloc _).drew.grown hgrow (by intro k hk _; rw [hk]; simp)
       have HCG := Lib.hid hcg
       have hb' := HB.out.chg hcg (by intro hh; exact (HR2.out.2 b (by simpa using hh)).2 rfl)
       have HB' := Lib.hid hb'
       have c4' := hb'.cell 5 _ rfl
       have f4' := hb'.free 5
       have HG3 := Lib.hid hg3
       have HG4 := Lib.hid hg4
       clear hown hgrow hcg hb' hat hg3 hg4))
  all_goals
    go_wp2
    go_ret2
    have hF : ∀ i, i ∈ (Value.slice A2 rt.length cap2).ownBlock.toList → i ∈ F := fun i hi => (HR2.out.2 i (by simpa using hi)).1
    have hgs : g = w2.heap.size + 1 ∨ (g ∈ F ∧ (Value.slice A2 rt.length cap2).ownBlock = some g) := by simpa using HG3.out
    have h1 := HCG.out.size
    have h2 := HC.out.size
    have ROW1 : RoW (w'.setCell ⟨b, 5, none⟩ (.slice (some ⟨g, 0, none⟩) (rt.length + 1) cap')) (fun i => i ∈ g :: F ∧ i ≠ b) (.slice (some ⟨g, 0, none⟩) (rt.length + 1) cap') (rt ++ [L]) :=
      (HG.out.mono (fun i hi => ⟨by simp [hi], by rw [hi]; exact HG4.out⟩)).kept (fun i hi _ => Below.heap_setCell _ _ _ _ (by simpa using hi.2))
    have ROW2 : RoW (w'.setCell ⟨b, 5, none⟩ (.slice (some ⟨g, 0, none⟩) (rt.length + 1) cap')) (fun i => i ∈ g :: F ∧ i ≠ b) v1 rq := by
      refine ((?_ : RoW w' (fun i => i ∈ F ∧ i ≠ b) v1 rq).kept (fun i hi _ => Below.heap_setCell _ _ _ _ (by simpa using hi.2))).mono (fun i hi => ⟨by simp [hi.1], hi.2⟩)
      have hk : RoW w2 (fun i => v1.ownBlock = some i) v1 rq := ⟨HR1.out.1, fun g hg => hg⟩
      have hk2 := hk.kept (w' := w') (fun i hi hl => HCG.out.block i hl (by
        intro hm
        have e1 : (Value.slice A2 rt.length cap2).ownBlock = some i := by simpa using hm
        have := HNE.out
        rcases this with this | this
        · rw [hi] at this; cases this
        · rw [e1, hi] at this; exact this rfl))
      exact ⟨hk2.1, HR1.out.2⟩
    have NE : v1.ownBlock = none ∨ v1.ownBlock ≠ (Value.slice (some ⟨g, 0, none⟩) (rt.length + 1) cap').ownBlock := by
      by_cases hz : v1.ownBlock = none
      · exact .inl hz
      right
      intro e
      have e2 : v1.ownBlock = some g := by rw [e]; simp [Value.ownBlock]
      rcases hgs with hgs | hgs
      · have := HM.out.2 g (HR1.out.2 g e2).1
        omega
      · rcases HNE.out with h | h
        · exact hz h
        · rw [hgs.2, e2] at h; exact h rfl
    refine ⟨g :: F, rfl, ⟨by simp [HM.out.1], fun i hi => ?_, _, _, HB'.out.set 5 _, ROW2, ROW1, NE⟩, (HC.out.mono (by intro i hi; simp at hi; rw [hi]; exact HM.out.1)).trans (F' := F) ((HCG.out.mono hF).setCell (by intro _; exact HM.out.1) _) (fun i hi _ => hi), fun i hi => ?_⟩
    · rcases List.mem_cons.1 hi with rfl | hi
      · simpa using hg2
      · have := HM.out.2 i hi
        simp
        omega
    · rcases List.mem_cons.1 hi with rfl | hi
      · rcases hgs with hgs | hgs
        · right; omega
        · exact .inl hgs.1
      · exact .inl hi
theorem radmit_bad (p : Option Addr) (now : Int) (hn : now < 0 ∨ 4611686018427387904 < now) (w : World) : Calls Try.prog 31 #[.pointer p, .int .i64 now] w fun e w' => e = .returned (.int .i64 1) ∧ w = w' := by
  go_enter Try.func31, Try.ntmps31
  go_wp2_with (first | (go_at_call 35; (with_reducible refine (rlate_bad p now hn _).mono ?_); rintro e w' ⟨rfl, rfl⟩))
  go_ret
  exact ⟨rfl, rfl⟩
theorem rallow_bad (p : Option Addr) (now : Int) (hn : now < 0 ∨ 4611686018427387904 < now) (w : World) : Calls Try.prog 33 #[.pointer p, .int .i64 now] w fun e w' => e = .returned (.tuple #[.bool false, .int .i64 1]) ∧ w = w' := by
  go_enter Try.func33, Try.ntmps33
  go_wp2_with (first | (go_at_call 29; (with_reducible refine (rcan_bad p now hn _).mono ?_); rintro e w' ⟨rfl, rfl⟩))
  go_ret2
  exact ⟨rfl, rfl⟩
def RNotTold (b : Nat) (p m win last : Int) (rq rt : List Int) (F : List Nat) (w : World) (e : Ending) (w' : World) : Prop :=
  e = .returned (.tuple #[.bool false, .int .i64 0]) ∧ RSt w' b p m win last rq rt F ∧ Chg [b] w w'
theorem rallow_no (b : Nat) (p m win last now L : Int) (rq rt : List Int) (F : List Nat) (w : World) (h : RSt w b p m win last rq rt F) (h0 : 0 ≤ last) (h1 : last ≤ 4611686018427387904) (n0 : 0 ≤ now) (n1 : now ≤ 4611686018427387904) (w0 : 0 ≤ win) (w1 : win ≤ 1000000) (hL : (L = now ∧ last < now) ∨ (L = last ∧ now ≤ last))
    (p0 : 0 ≤ p) (p1 : p ≤ 100) (hn : rq.length ≤ 100000) (ht : rt.length ≤ 100000) (hy : rcanB p m (cnt rq (L - win)) (cnt rt (L - win)) = false) :
    Calls Try.prog 33 #[.pointer (some ⟨b, 0, none⟩), .int .i64 now] w (RNotTold b p m win L rq rt F w) := by
  have K := Lib.hid (rcan_any b p m win last now L rq rt F w h h0 h1 n0 n1 w0 w1 hL p0 p1 hn ht)
  have HY := Lib.hid hy
  clear h hL hy
  go_enter Try.func33, Try.ntmps33
  go_wp2_with fail
  refine K.out.mono ?_
  rintro e w2 ⟨rfl, hb, hc⟩
  rw [HY.out]
  go_wp2_with fail
  go_ret2
  exact ⟨rfl, hb, hc⟩
end Go.Proofs.Ytgaggimkkoopfaa
