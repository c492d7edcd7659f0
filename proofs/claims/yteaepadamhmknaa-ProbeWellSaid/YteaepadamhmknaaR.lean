/- Regions that draw their order: some operations are taken first, then operations that leave the world alone in the text's order, then a forced tail. (After the library's StillTail, from a point at which some operations are done.) It speaks of no program. -/
import Derived.StillTail
import Derived.StillTactics
import Derived.WalkKit
import Derived.Maps.AppendAt
import Derived.Deep.RegionLaw
set_option linter.unusedVariables false
namespace Go.Proofs.Yteaepadamhmknaa
open Go
section
variable {P : Program} {ops : Array Oper} {md : Region.Mode} {w : World}
/-- Each operation ahead of n that is not done is waited for by a later one up to n. -/
def sinkFrom (md : Region.Mode) (ops : Array Oper) (n : Nat) (done : List Nat) : Bool :=
  (List.range n).all fun i => done.contains i || (List.range (n + 1)).any fun j => decide (i < j) && Region.waitsFor md ops j i
structure DoneInv (md : Region.Mode) (ops : Array Oper) (n : Nat) (done : List Nat) (listed : Array Bool) : Prop where
  head : HeadInv md ops n listed
  done : ∀ i, i ∈ done → listed.getD i false = true
theorem DoneInv.set {n i : Nat} {done : List Nat} {listed : Array Bool} (inv : DoneInv md ops n done listed) (hi : i ∈ Region.ready md ops listed) (hin : i < n) : DoneInv md ops n done (listed.setIfInBounds i true) :=
  ⟨inv.head.set hi hin, fun k hk => getD_set_true (inv.done k hk)⟩
theorem tail_waits_from {n : Nat} {done : List Nat} {listed : Array Bool} (hs : sinkFrom md ops n done = true) (hc : Region.chainB md ops n = true) (hn : n < ops.size) (inv : DoneInv md ops n done listed) :
    ∀ (d i : Nat), n - i = d → i < n → listed.getD i true = false → ∀ t, n ≤ t → t ∉ Region.ready md ops listed := by
  intro d
  induction d using Nat.strongRecOn with
  | _ d ih =>
    intro i hd hi hun t ht hr
    obtain ⟨_, ot, hot, hall⟩ := mem_ready.1 hr
    have htlt : t < ops.size := (Array.getElem?_eq_some_iff.1 hot).1
    by_cases htn : t = n
    · subst htn
      have h1 := List.all_eq_true.1 hs i (List.mem_range.2 hi)
      rw [Bool.or_eq_true] at h1
      rcases h1 with h1 | h1
      · have h2 := inv.done i (by simpa using h1)
        rw [getD_both hun] at h2
        cases h2
      obtain ⟨j, hj, hj2⟩ := List.any_eq_true.1 h1
      simp only [Bool.and_eq_true, decide_eq_true_eq] at hj2
      obtain ⟨oj, hoj, e, he, hb, hon⟩ := Region.waitsFor_spec hj2.2
      have hjle : j ≤ t := by have := List.mem_range.1 hj; omega
      by_cases hjt : j = t
      · subst hjt
        have : oj = ot := Option.some.inj (hoj.symm.trans hot)
        subst this
        have h2 := hall e he hb
        rw [hon, getD_both hun] at h2
        cases h2
      · cases hl : listed.getD j false with
        | true =>
          have h2 := inv.head.closed j oj hoj hl e he hb
          rw [hon, getD_both hun] at h2
          cases h2
        | false =>
          have hjs : j < listed.size := by rw [inv.head.size]; omega
          exact ih (t - j) (by omega) j rfl (by omega) (getD_in hjs hl) t (Nat.le_refl _) hr
    · have h1 := List.all_eq_true.1 hc t (List.mem_range.2 htlt)
      simp only [Bool.or_eq_true, decide_eq_true_eq] at h1
      rcases h1 with h1 | h1
      · omega
      · obtain ⟨o', ho', e, he, hb, hon⟩ := Region.waitsFor_spec h1
        have : o' = ot := Option.some.inj (ho'.symm.trans hot)
        subst this
        have h2 := hall e he hb
        rw [hon, getD_both (inv.head.tail (t - 1) (by omega) (by omega))] at h2
        cases h2
theorem first_from {n i : Nat} {done : List Nat} {oi : Oper} {v : Value} {L : Array Bool → Act → Prop} (hi : ops[i]? = some oi) (hsel : ∀ (j : Nat) (o : Oper) cs b, ops[j]? = some o → o.op ≠ .select cs b)
    (hs : sinkFrom md ops n done = true) (hc : Region.chainB md ops n = true) (hn : n < ops.size) (hin : i < n)
    (hdone : ∀ listed a, L listed a → ∀ j ∈ Region.ready md ops listed, n ≤ j) :
    ∀ (f : Nat) (listed : Array Bool) (a : Act), DoneInv md ops n done listed →
      (∀ j oj, ops[j]? = some oj → j ≠ i → listed.getD j true = false → (∀ e ∈ oj.after, Region.binds md e = true → e.on ≠ i) → oi.apart ops oj = true) →
      i ∈ Region.ready md ops listed → YieldsAt P ops w oi v a →
      wpAnyL P md ops w n L f (listed.setIfInBounds i true) (a.put oi.dst v) → wpAnyL P md ops w n L (f + 1) listed a := by
  intro f
  induction f with
  | zero =>
    intro listed a inv _ hr hy H
    have hun := (mem_ready.1 hr).1
    refine ⟨fun h => (by rw [h] at hr; cases hr), fun j hj => ?_⟩
    have hjn : j < n := by
      rcases Nat.lt_or_ge j n with h | h
      · exact h
      · exact absurd hj (tail_waits_from hs hc hn inv _ i rfl hin hun j h)
    refine ⟨hjn, ?_⟩
    by_cases hji : j = i
    · subst hji; exact hy.stOp hi H
    · have := hdone _ _ H j (ready_mono hj hji)
      omega
  | succ f ih =>
    intro listed a inv hfree hr hy H
    have hun := (mem_ready.1 hr).1
    refine ⟨fun h => (by rw [h] at hr; cases hr), fun j hj => ?_⟩
    have hjn : j < n := by
      rcases Nat.lt_or_ge j n with h | h
      · exact h
      · exact absurd hj (tail_waits_from hs hc hn inv _ i rfl hin hun j h)
    refine ⟨hjn, ?_⟩
    by_cases hji : j = i
    · subst hji; exact hy.stOp hi H
    · have h1 := (H.2 j (ready_mono hj hji)).2
      obtain ⟨hjun, oj, hoj, hall⟩ := mem_ready.1 hj
      have hnot : ∀ e ∈ oj.after, Region.binds md e = true → e.on ≠ i := fun e he hb heq => by
        have h1 := hall e he hb
        rw [heq, getD_both hun] at h1
        cases h1
      have h2 := stOp_put hoj (hfree j oj hoj hji hjun hnot) (fun cs b => hsel i oi cs b hi) (fun cs b => hsel j oj cs b hoj) hy h1
      have hfree' : ∀ k ok, ops[k]? = some ok → k ≠ i → (listed.setIfInBounds j true).getD k true = false →
          (∀ e ∈ ok.after, Region.binds md e = true → e.on ≠ i) → oi.apart ops ok = true := fun k ok hk hki hun hno => by
        refine hfree k ok hk hki ?_ hno
        by_cases hjk : j = k
        · subst hjk; exact hjun
        · rw [getD_set_ne true hjk] at hun; exact hun
      refine stOp_mono (fun a' h3 => ih (listed.setIfInBounds j true) a' (inv.set hj hjn) hfree' (ready_mono hr (Ne.symm hji)) h3.1 ?_) h2
      rw [Array.setIfInBounds_comm _ _ hji]
      exact h3.2
/-- The kernel's question: each of ks comes up in turn and is free, then the tail from n on is forced. -/
def headFrom (md : Region.Mode) (ops : Array Oper) (n g : Nat) : List Nat → Array Bool → Bool
  | [], listed => Region.seqB md ops g n listed
  | k :: ks, listed => decide (k < n) && (Region.ready md ops listed).contains k && Region.free md ops listed k && headFrom md ops n g ks (listed.setIfInBounds k true)
theorem still_from {n g : Nat} {done : List Nat} {Lq : Act → Prop} (hsel : Region.noSelect ops = true) (hs : sinkFrom md ops n done = true) (hc : Region.chainB md ops n = true) (hn : n < ops.size) :
    ∀ (l : List Oper) (ks : List Nat) (listed : Array Bool) (a : Act), ks.map (fun k => ops[k]?) = l.map some → DoneInv md ops n done listed →
    headFrom md ops n g ks listed = true → wpStill P ops w Lq l a →
    wpAnyL P md ops w n (fun listed' a' => Region.seqB md ops g n listed' = true ∧ Lq a') l.length listed a
  | [], ks, listed, a, hl, _, hB, h => by
    have : ks = [] := by simpa using hl
    subst this
    exact ⟨by simpa [headFrom] using hB, h⟩
  | o :: l, [], listed, a, hl, _, _, _ => by simp at hl
  | o :: l, k :: ks, listed, a, hl, inv, hB, h => by
    simp only [List.map_cons, List.cons.injEq] at hl
    obtain ⟨h0, hl⟩ := hl
    simp only [headFrom, Bool.and_eq_true, decide_eq_true_eq] at hB
    obtain ⟨⟨⟨hkn, hr⟩, hf⟩, hB'⟩ := hB
    have hr' : k ∈ Region.ready md ops listed := by simpa using hr
    have hst : stOp P ops w k (wpStill P ops w Lq l) a := by unfold stOp; simp only [h0]; exact h
    obtain ⟨v, hy, hK⟩ := yieldsAt_of_stOp h0 hst
    exact first_from h0 (Region.noSelect_spec hsel) hs hc hn hkn (fun listed' a' hL => seqB_ready hL.1) l.length listed a inv (Region.free_spec h0 hf) hr' hy
      (still_from hsel hs hc hn l ks _ _ hl (inv.set hr' hkn) hB' hK)
/-- What the kernel is asked of a region: done: what has been taken; ks: what leaves the world alone, in the text's order; n: where the forced tail begins. -/
def tailFromB (md : Region.Mode) (ops : Array Oper) (n : Nat) (done ks : List Nat) (listed : Array Bool) : Bool :=
  Region.noSelect ops && decide (n < ops.size) && sinkFrom md ops n done && Region.chainB md ops n && headFrom md ops n (ops.size - n) ks listed
    && decide (listed.size = ops.size) && (List.range ops.size).all (fun j => decide (listed.getD j false = done.contains j) && (!done.contains j || decide (j < n) && match ops[j]? with | some oj => oj.after.all (fun e => !Region.binds md e || done.contains e.on) | none => false)) && done.all (fun j => decide (j < ops.size))
theorem wpAny_tail_from {Q : Exit → Act → World → Prop} {a : Act} {l : List Oper} (n : Nat) (done ks : List Nat) (f : Nat) (listed : Array Bool) (hls : ks.map (fun k => l.toArray[k]?) = (ks.map fun k => l.getD k default).map some)
    (hB : tailFromB md l.toArray n done ks listed = true) (hf : f = ks.length + (l.length - n))
    (h : wpStill P l.toArray w (fun a' => wpList P l.toArray Q (l.drop n) a' w) (ks.map fun k => l.getD k default) a) : wpAny P md l.toArray Q f listed a w := by
  simp only [tailFromB, Bool.and_eq_true, decide_eq_true_eq] at hB
  obtain ⟨⟨⟨⟨⟨⟨⟨hsel, hn⟩, hs⟩, hc⟩, hlex⟩, hsz⟩, hall⟩, hdl0⟩ := hB
  subst hf
  have hn' : n < l.length := by simpa using hn
  have hdl : (l.drop n).length = l.toArray.size - n := by simp
  have hj : ∀ j, j < l.toArray.size → listed.getD j false = done.contains j ∧ (done.contains j = true → j < n ∧ ∀ oj, l.toArray[j]? = some oj → ∀ e ∈ oj.after, Region.binds md e = true → done.contains e.on = true) := by
    intro j hj
    have h1 := List.all_eq_true.1 hall j (List.mem_range.2 hj)
    simp only [Bool.and_eq_true, decide_eq_true_eq, Bool.or_eq_true, Bool.not_eq_true'] at h1
    refine ⟨h1.1, fun hd => ?_⟩
    rcases h1.2 with h2 | h2
    · rw [h2] at hd; cases hd
    · refine ⟨h2.1, fun oj hoj e he hb => ?_⟩
      rw [hoj] at h2
      have h3 := Array.all_eq_true_iff_forall_mem.1 h2.2 e he
      simp only [Bool.or_eq_true, Bool.not_eq_true', hb] at h3
      simpa using h3
  have inv0 : DoneInv md l.toArray n done listed := by
    refine ⟨⟨hsz, fun j oj hoj hl e he hb => ?_, fun t ht htlt => ?_⟩, fun i hi => ?_⟩
    · have hjl : j < l.toArray.size := (Array.getElem?_eq_some_iff.1 hoj).1
      have h2 := (hj j hjl).2 (by rw [← (hj j hjl).1]; exact hl)
      have h3 := h2.2 oj hoj e he hb
      have h4 : e.on < l.toArray.size := by
        have := List.all_eq_true.1 hdl0 e.on (by simpa using h3)
        simpa using this
      rw [(hj _ h4).1]; exact h3
    · have h1 := (hj t htlt).1
      have h2 : done.contains t = false := by
        cases hd : done.contains t
        · rfl
        · have := ((hj t htlt).2 hd).1; omega
      rw [h2] at h1
      exact getD_in (by omega) h1
    · have h4 : i < l.toArray.size := by
        have := List.all_eq_true.1 hdl0 i hi
        simpa using this
      rw [(hj i h4).1]
      simpa using hi
  have H := still_from (P := P) (w := w) (md := md) (g := l.toArray.size - n) hsel hs hc hn (ks.map fun k => l.getD k default) ks listed a hls inv0 hlex h
  have := wpAny_of_head (Q' := Q) (g := l.toArray.size - n) (fun listed a' hL => by
    have := wpAny_of_seq (md := md) (Q' := Q) (l.drop n) n listed a' w (fun j => by simp [List.getElem?_drop]) (by rw [hdl]; exact hL.1) hL.2
    rwa [hdl] at this) _ _ _ H
  simpa using this
end
/-- append to a row of the call's own, as one step of a region that draws: in place or to a new row. -/
theorem step_append_own {P : Program} {ops : Array Oper} {o : Oper} {a : Act} {w : World} {K : Act → World → Prop} {Q : Exit → Act → World → Prop} {E : Prop}
    (hg : o.guard = none) (s x : Operand) (t : TypeId) (hop : o.op = Op.call { callee := Callee.builtin Builtin.append, args := #[s, x], argTypes := #[t, t] })
    (e : TypeId) (i : TypeInfo) (z : Value) (size bytes : Nat) (h1 : P.underlying t = some (.slice e)) (h2 : P.info? e = some i) (h3 : i.zero = some z) (h4 : i.size = size) (h5 : i.bytes = bytes) (h6 : z.cells.size = size) (h7 : 0 < size)
    (v : Value) (n : Nat) (xs : List Value) (hs : a.eval s = v) (hown : w.ownsRow 0 e size v n xs)
    (ad : Addr) (m c : Nat) (news : List Value) (hx : a.eval x = .slice (some ad) m c) (hn : news.length = m * size) (hc : ∀ j u, news[j]? = some u → w.cell? (ad.add j) = some u) (h1c : ∀ u ∈ news, u.oneCell' = true)
    (b1 : n + m ≤ maxLen) (b2 : (n + m) * bytes ≤ 140737488355328)
    (hK : ∀ v' w', w'.ownsRow 0 e size v' (n + m) (xs ++ news) → w.grownBy w' v.ownBlock → (v'.ownBlock = v.ownBlock ∨ v'.ownBlock = some w.heap.size) → K (a.put o.dst v') w') :
    if Region.wanted o (yielded ops a.tmps) = true then Oper.wp P o a w K Q else E := by
  have hw : Region.wanted o (yielded ops a.tmps) = true := by simp [Region.wanted, hg]
  rw [if_pos hw]
  obtain ⟨v', w', hrun, r1, r2, _, r4⟩ := run_append_own_at (P := P) w 0 t o.type e i z size bytes h1 h2 h3 h4 h5 h6 h7 v n xs hown ad m c news hn hc h1c b1 b2 (Nat.zero_le _)
  unfold Oper.wp
  simp [execOp, hop, resolve, invoke, builtin, hs, hx, hrun, Result.andThen]
  exact hK v' w' r1 r2 r4
end Go.Proofs.Yteaepadamhmknaa
