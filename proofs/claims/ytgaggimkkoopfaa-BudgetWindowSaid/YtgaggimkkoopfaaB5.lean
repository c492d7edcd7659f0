/- A budget's methods: what is told of a request or a retry. -/
import Derived.Test.YtgaggimkkoopfaaB4
namespace Go.Proofs.Ytgaggimkkoopfaa
open Go.RowKit
set_option linter.unusedVariables false

/-- What stands behind an append to a tight list that grows: a new row, in a world that is the old one but for new blocks. -/
theorem grown_row {B : Nat} {w' : World} {v' : Value} {q : List Int} {L : Int} (hown : w'.ownsRow B 3 1 v' (q.length + 1) (q.map (Value.int .i64) ++ [.int .i64 L])) :
    ∃ g cap, v' = .slice (some ⟨g, 0, none⟩) (q.length + 1) cap ∧ B ≤ g ∧ g < w'.heap.size ∧ Hid (RoSl w' (fun i => i = g) v' (q ++ [L])) := by
  have h : w'.ownsRow B 3 1 v' (q.length + 1) ((q ++ [L]).map (Value.int .i64)) := by simpa using hown
  obtain ⟨g, cap, e, h1, h2, h3⟩ := roSl_own (fun i => v'.ownBlock = some i) h (by simp) (fun g hg => hg) (by omega)
  refine ⟨g, cap, e, h1, h2, h3.mono (fun i hi => ?_)⟩
  rw [e] at hi
  simpa [Value.ownBlock] using hi.symm
/-- A budget to whose requests one was added. -/
def Told (b : Nat) (p m win last : Int) (rq rt : List Int) (F : List Nat) (v : Value) (w : World) (e : Ending) (w' : World) : Prop :=
  ∃ F', e = .returned v ∧ BSt w' b p m win last rq rt F' ∧ Chg [b] w w' ∧ ∀ i, i ∈ F' → i ∈ F ∨ w.heap.size ≤ i
set_option maxHeartbeats 2000000 in
set_option maxRecDepth 100000 in
theorem badmit_any (b : Nat) (p m win last now L : Int) (rq rt : List Int) (F : List Nat) (w : World) (h : BSt w b p m win last rq rt F) (h0 : 0 ≤ last) (h1 : last ≤ 4611686018427387904) (n0 : 0 ≤ now) (n1 : now ≤ 4611686018427387904) (w0 : 0 ≤ win) (w1 : win ≤ 1000000) (hL : (L = now ∧ last < now) ∨ (L = last ∧ now ≤ last))
    (hn : (lateL rq (L - win)).length < 100000) :
    Calls Try.prog 30 #[.pointer (some ⟨b, 0, none⟩), .int .i64 now] w (Told b p m win L (lateL rq (L - win) ++ [L]) (lateL rt (L - win)) F (.int .i64 0) w) := by
  have K := Lib.hid (blate_any b p m win last now L rq rt F w h h0 h1 n0 n1 w0 w1 hL)
  clear h hL
  generalize lateL rq (L - win) = q at *
  generalize lateL rt (L - win) = t at *
  have hq : ((q.length : Int) == 100000) = false := beq_eq_false_iff_ne.2 (by omega)
  obtain ⟨i0, hi, hz0, hz1, hz2⟩ := info_parts info3
  have HI := Lib.hid (And.intro hi (And.intro hz0 (And.intro hz1 hz2)))
  clear hi hz0 hz1 hz2
  go_enter Try.func30, Try.ntmps30
  go_wp2_with fail
  refine K.out.mono ?_
  rintro e w2 ⟨rfl, hb, hc⟩
  have HC := Lib.hid hc
  obtain ⟨hm, hl, v1, v2, hblk, ⟨hr1, A1, rfl⟩, hr2⟩ := hb
  have HM := Lib.hid (And.intro hm hl)
  have HR2 := Lib.hid hr2
  have HR1 := Lib.hid hr1
  have HB := Lib.hid hblk
  have c3 := hblk.cell 3 _ rfl
  have c4 := hblk.cell 4 _ rfl
  have f4 := hblk.free 4
  have c4a : (w2.alloc (.cells #[.int .i64 L] 3)).cell? ⟨b, 4, none⟩ = some (.slice A1 q.length q.length) := (hblk.alloc _).cell 4 _ rfl
  clear hc hblk hm hl K hr2
  have HO := Lib.hid (hr1.kept (w' := (w2.alloc (.cells #[.int .i64 L] 3)).drew) (fun i hi hl => Below.heap_alloc _ _ _ hl)).olds
  have HN := Lib.hid (show ∀ (j : Nat) (u : Value), [.int .i64 L][j]? = some u → (w2.alloc (.cells #[.int .i64 L] 3)).drew.cell? ((⟨w2.heap.size, 0, none⟩ : Addr).add j) = some u from by
    intro j u hu
    match j, hu with
    | 0, hu =>
      obtain rfl : .int .i64 L = u := by simpa using hu
      exact (Blk.new w2 [.int .i64 L] 3).cell 0 _ rfl)
  clear hr1
  go_wp2_with fail
  go_region_law (first
    | (refine step_append_grows rfl (.tmp 30) (.tmp 35) 22 rfl 3 i0 (.int .i64 0) 1 8 Try.underlying22 HI.out.1 HI.out.2.1 HI.out.2.2.1 HI.out.2.2.2 rfl (by decide) A1 q.length q.length (q.map (Value.int .i64)) (by simp [Act.eval]) HO.out.1 HO.out.2.1 HO.out.2.2 ⟨w2.heap.size, 0, none⟩ 1 1 [.int .i64 L] (by simp [Act.eval]) rfl HN.out (by intro u hu; simp at hu; subst hu; rfl) (by omega) (by unfold maxLen; omega) (by omega) ?_
       intro v' w' hown hgrow
       obtain ⟨g, cap', rfl, hg1, hg2, HG⟩ := grown_row hown
       have hcg : Chg [] w2 w' := ((Chg.refl [] w2).alloc _).drew.grown hgrow (by simp)
       have HCG := Lib.hid hcg
       have hb' := HB.out.chg hcg (by simp)
       have HB' := Lib.hid hb'
       have c4' := hb'.cell 4 _ rfl
       have f4' := hb'.free 4
       have HG1 := Lib.hid hg1
       clear hown hgrow hcg hb' hg1))
  all_goals
    go_wp2
    go_ret
    refine ⟨g :: F, rfl, ⟨by simp [HM.out.1], fun i hi => ?_, _, _, HB'.out.set 4 _, ?_, ?_⟩, (HC.out.trans HCG.out (by simp)).setCell (by simp) _, fun i hi => ?_⟩
    · have h1 := HCG.out.size
      rcases List.mem_cons.1 hi with rfl | hi
      · simpa using hg2
      · have := HM.out.2 i hi
        simp
        omega
    · have hne : g ≠ b := by
        have h1 := HB.out.lt
        have h2 := HG1.out
        simp at h2
        omega
      exact (HG.out.mono (fun i hi => ⟨by simp [hi], by rw [hi]; exact hne⟩)).kept (fun i hi _ => Below.heap_setCell _ _ _ _ (by simpa using hi.2))
    · refine ((HR2.out.1.kept (fun i hi hl => HCG.out.block i hl (by simp))).kept (fun i hi _ => Below.heap_setCell _ _ _ _ (by simpa using hi.2))).mono (fun i hi => ⟨by simp [hi.1], hi.2⟩)
    · rcases List.mem_cons.1 hi with rfl | hi
      · right
        have h1 := HC.out.size
        have h2 := HG1.out
        simp at h2
        omega
      · exact .inl hi
set_option maxHeartbeats 2000000 in
set_option maxRecDepth 100000 in
theorem ballow_yes (b : Nat) (p m win last now L : Int) (rq rt : List Int) (F : List Nat) (w : World) (h : BSt w b p m win last rq rt F) (h0 : 0 ≤ last) (h1 : last ≤ 4611686018427387904) (n0 : 0 ≤ now) (n1 : now ≤ 4611686018427387904) (w0 : 0 ≤ win) (w1 : win ≤ 1000000) (hL : (L = now ∧ last < now) ∨ (L = last ∧ now ≤ last))
    (p0 : 0 ≤ p) (p1 : p ≤ 100) (hn : (lateL rq (L - win)).length ≤ 100000) (ht : (lateL rt (L - win)).length < 100000) (hy : canB p m (lateL rq (L - win)).length (lateL rt (L - win)).length = true) :
    Calls Try.prog 32 #[.pointer (some ⟨b, 0, none⟩), .int .i64 now] w (Told b p m win L (lateL rq (L - win)) (lateL rt (L - win) ++ [L]) F (.tuple #[.bool true, .int .i64 0]) w) := by
  have K := Lib.hid (bcan_any b p m win last now L rq rt F w h h0 h1 n0 n1 w0 w1 hL p0 p1 hn)
  clear h hL
  generalize lateL rq (L - win) = q at *
  generalize lateL rt (L - win) = t at *
  have HY := Lib.hid hy
  clear hy
  obtain ⟨i0, hi, hz0, hz1, hz2⟩ := info_parts info3
  have HI := Lib.hid (And.intro hi (And.intro hz0 (And.intro hz1 hz2)))
  clear hi hz0 hz1 hz2
  go_enter Try.func32, Try.ntmps32
  go_wp2_with fail
  refine K.out.mono ?_
  rintro e w2 ⟨rfl, hb, hc⟩
  rw [HY.out]
  have HC := Lib.hid hc
  obtain ⟨hm, hl, v1, v2, hblk, hr2, ⟨hr1, A1, rfl⟩⟩ := hb
  have HM := Lib.hid (And.intro hm hl)
  have HR2 := Lib.hid hr2
  have HR1 := Lib.hid hr1
  have HB := Lib.hid hblk
  have c3 := hblk.cell 3 _ rfl
  have c4 := hblk.cell 5 _ rfl
  have f4 := hblk.free 5
  have c4a : (w2.alloc (.cells #[.int .i64 L] 3)).cell? ⟨b, 5, none⟩ = some (.slice A1 t.length t.length) := (hblk.alloc _).cell 5 _ rfl
  clear hc hblk hm hl K hr2
  have HO := Lib.hid (hr1.kept (w' := (w2.alloc (.cells #[.int .i64 L] 3)).drew) (fun i hi hl => Below.heap_alloc _ _ _ hl)).olds
  have HN := Lib.hid (show ∀ (j : Nat) (u : Value), [.int .i64 L][j]? = some u → (w2.alloc (.cells #[.int .i64 L] 3)).drew.cell? ((⟨w2.heap.size, 0, none⟩ : Addr).add j) = some u from by
    intro j u hu
    match j, hu with
    | 0, hu =>
      obtain rfl : .int .i64 L = u := by simpa using hu
      exact (Blk.new w2 [.int .i64 L] 3).cell 0 _ rfl)
  clear hr1
  go_wp2_with fail
  go_region_law (first
    | (refine step_append_grows rfl (.tmp 19) (.tmp 24) 22 rfl 3 i0 (.int .i64 0) 1 8 Try.underlying22 HI.out.1 HI.out.2.1 HI.out.2.2.1 HI.out.2.2.2 rfl (by decide) A1 t.length t.length (t.map (Value.int .i64)) (by simp [Act.eval]) HO.out.1 HO.out.2.1 HO.out.2.2 ⟨w2.heap.size, 0, none⟩ 1 1 [.int .i64 L] (by simp [Act.eval]) rfl HN.out (by intro u hu; simp at hu; subst hu; rfl) (by omega) (by unfold maxLen; omega) (by omega) ?_
       intro v' w' hown hgrow
       obtain ⟨g, cap', rfl, hg1, hg2, HG⟩ := grown_row hown
       have hcg : Chg [] w2 w' := ((Chg.refl [] w2).alloc _).drew.grown hgrow (by simp)
       have HCG := Lib.hid hcg
       have hb' := HB.out.chg hcg (by simp)
       have HB' := Lib.hid hb'
       have c4' := hb'.cell 5 _ rfl
       have f4' := hb'.free 5
       have HG1 := Lib.hid hg1
       clear hown hgrow hcg hb' hg1))
  all_goals
    go_wp2
    go_ret2
    refine ⟨g :: F, rfl, ⟨by simp [HM.out.1], fun i hi => ?_, _, _, HB'.out.set 5 _, ?_, ?_⟩, (HC.out.trans HCG.out (by simp)).setCell (by simp) _, fun i hi => ?_⟩
    · have h1 := HCG.out.size
      rcases List.mem_cons.1 hi with rfl | hi
      · simpa using hg2
      · have := HM.out.2 i hi
        simp
        omega
    · refine ((HR2.out.1.kept (fun i hi hl => HCG.out.block i hl (by simp))).kept (fun i hi _ => Below.heap_setCell _ _ _ _ (by simpa using hi.2))).mono (fun i hi => ⟨by simp [hi.1], hi.2⟩)
    · have hne : g ≠ b := by
        have h1 := HB.out.lt
        have h2 := HG1.out
        simp at h2
        omega
      exact (HG.out.mono (fun i hi => ⟨by simp [hi], by rw [hi]; exact hne⟩)).kept (fun i hi _ => Below.heap_setCell _ _ _ _ (by simpa using hi.2))
    · rcases List.mem_cons.1 hi with rfl | hi
      · right
        have h1 := HC.out.size
        have h2 := HG1.out
        simp at h2
        omega
      · exact .inl hi
end Go.Proofs.Ytgaggimkkoopfaa
