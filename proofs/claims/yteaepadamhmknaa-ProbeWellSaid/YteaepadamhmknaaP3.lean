/- Layer 19: Due, Late, Healthy. -/
import Derived.Test.YteaepadamhmknaaP2
import Derived.Test.YteaepadamhmknaaH8
namespace Go.Proofs.Yteaepadamhmknaa
open Go.RowKit
set_option linter.unusedVariables false

theorem due_bad (p : Option Addr) (now : Int) (h : now < 0 ∨ 4611686018427387904 < now) (w : World) : Calls Try.prog 28 #[.pointer p, .int .i64 now] w fun e w' => e = .returned (.tuple #[.slice none 0 0, .int .i64 1]) ∧ w = w' := by
  have HB := Lib.hid h
  clear h
  go_enter Try.func28, Try.ntmps28
  go_wp2_with (first | (go_at_call 40; (with_reducible refine (pbring_bad p now HB.out _).mono ?_); rintro e w' ⟨rfl, rfl⟩))
  go_ret2
  exact ⟨rfl, rfl⟩
theorem due_nil (now : Int) (n0 : 0 ≤ now) (n1 : now ≤ 4611686018427387904) (w : World) : Calls Try.prog 28 #[.pointer none, .int .i64 now] w fun e w' => e = .returned (.tuple #[.slice none 0 0, .int .i64 0]) ∧ w = w' := by
  go_enter Try.func28, Try.ntmps28
  go_wp2_with (first | (go_at_call 40; (with_reducible refine (pbring_nil now n0 n1 _).mono ?_); rintro e w' ⟨rfl, rfl⟩))
  go_ret2
  exact ⟨rfl, rfl⟩
theorem late_bad (p : Option Addr) (now : Int) (h : now < 0 ∨ 4611686018427387904 < now) (w : World) : Calls Try.prog 31 #[.pointer p, .int .i64 now] w fun e w' => e = .returned (.tuple #[.slice none 0 0, .int .i64 1]) ∧ w = w' := by
  have HB := Lib.hid h
  clear h
  go_enter Try.func31, Try.ntmps31
  go_wp2_with (first | (go_at_call 40; (with_reducible refine (pbring_bad p now HB.out _).mono ?_); rintro e w' ⟨rfl, rfl⟩))
  go_ret2
  exact ⟨rfl, rfl⟩
theorem late_nil (now : Int) (n0 : 0 ≤ now) (n1 : now ≤ 4611686018427387904) (w : World) : Calls Try.prog 31 #[.pointer none, .int .i64 now] w fun e w' => e = .returned (.tuple #[.slice none 0 0, .int .i64 0]) ∧ w = w' := by
  go_enter Try.func31, Try.ntmps31
  go_wp2_with (first | (go_at_call 40; (with_reducible refine (pbring_nil now n0 n1 _).mono ?_); rintro e w' ⟨rfl, rfl⟩))
  go_ret2
  exact ⟨rfl, rfl⟩
/-- A slice of ints that a call made, behind it. -/
def Gives (w w' : World) (zs : List Int) (e : Ending) : Prop := ∃ v, e = .returned (.tuple #[v, .int .i64 0]) ∧ Own 3 w' v zs ∧ (∀ q, v.ownBlock = some q → w.heap.size ≤ q)
theorem late_any (b g : Nat) (every timeout up down last now : Int) (hs : List Ho) (w : World) (h : Hst 83 85 w b g every timeout up down last hs) (hl : hs.length ≤ 16) (ht : 0 ≤ timeout ∧ timeout ≤ 1000000) (hat : AtOk hs) (n0 : 0 ≤ now) (n1 : now ≤ 4611686018427387904) (hL : last ≤ now) :
    Calls Try.prog 31 #[.pointer (some ⟨b, 0, none⟩), .int .i64 now] w fun e w' => Gives w w' (idxI (hit true every timeout now) hs 0) e ∧ Brought 83 85 b g every timeout up down now hs w w' := by
  have HH := Lib.hid h
  have HAT := Lib.hid hat
  clear h hat
  go_enter Try.func31, Try.ntmps31
  go_wp2_with fail
  refine (pbring_any b g every timeout up down last now hs _ HH.out n0 n1 hL).mono ?_
  rintro e w1 ⟨rfl, HB⟩
  go_wp2_with fail
  refine (some_any b g every timeout up down now true hs _ HB.out.1 hl ht HAT.out).mono ?_
  rintro e w2 ⟨v, rfl, ho, hf, hc⟩
  have HO := Lib.hid ho
  have HF := Lib.hid hf
  have HC := Lib.hid hc
  clear ho hf hc
  go_wp2_with fail
  go_ret2
  exact ⟨⟨v, rfl, HO.out, fun q hq => Nat.le_trans HB.out.2.size (HF.out q hq)⟩, HB.out.1.frame HC.out (by simp) (by simp), HB.out.2.trans HC.out (by simp)⟩
/-- What Due makes of a host. -/
def Ho.run (L : Int) (x : Ho) : Ho := ⟨true, x.out, L, x.row, x.times⟩
/-- hs', which is hs but that the hosts that p takes run since L. -/
def Ran (p : Ho → Bool) (L : Int) (hs hs' : List Ho) : Prop := hs'.length = hs.length ∧ ∀ (i : Nat) (x : Ho), hs[i]? = some x → hs'[i]? = some (if p x = true then x.run L else x)
theorem idx_mem {p : Ho → Bool} {hs : List Ho} {o : Nat} {z : Int} (h : z ∈ idxI p hs o) : ∃ i x, z = ((o + i : Nat) : Int) ∧ hs[i]? = some x ∧ p x = true := by
  induction hs generalizing o with
  | nil => simp [idxI] at h
  | cons y hs ih =>
    unfold idxI at h
    have rec' : z ∈ idxI p hs (o + 1) → ∃ i x, z = ((o + i : Nat) : Int) ∧ (y :: hs)[i]? = some x ∧ p x = true := by
      intro h
      obtain ⟨i, x, h1, h2, h3⟩ := ih h
      exact ⟨i + 1, x, by rw [h1]; congr 1; omega, by simpa using h2, h3⟩
    split at h
    · rename_i hc
      simp only [List.mem_cons] at h
      rcases h with h | h
      · exact ⟨0, y, by simpa using h, rfl, hc⟩
      · exact rec' h
    · exact rec' h
theorem mem_idx {p : Ho → Bool} {hs : List Ho} {o i : Nat} {x : Ho} (hx : hs[i]? = some x) (hp : p x = true) : ((o + i : Nat) : Int) ∈ idxI p hs o := by
  induction hs generalizing o i with
  | nil => simp at hx
  | cons y hs ih =>
    unfold idxI
    cases i with
    | zero =>
      obtain rfl : y = x := by simpa using hx
      rw [if_pos hp]
      simp
    | succ i =>
      have := ih (o := o + 1) (i := i) (by simpa using hx)
      have e : o + 1 + i = o + (i + 1) := by omega
      rw [e] at this
      split
      · exact List.mem_cons_of_mem _ this
      · exact this
/-- The hosts of the numbers in ds run. -/
def Half (p : Ho → Bool) (L : Int) (hs hs' : List Ho) (ds : List Int) : Prop := hs'.length = hs.length ∧ ∀ (i : Nat) (x : Ho), hs[i]? = some x → hs'[i]? = some (if ((i : Nat) : Int) ∈ ds then x.run L else x)
theorem Half.nil (p : Ho → Bool) (L : Int) (hs : List Ho) : Half p L hs hs [] := ⟨rfl, fun i x hx => by simpa using hx⟩
theorem Half.ran {p : Ho → Bool} {L : Int} {hs hs' : List Ho} (h : Half p L hs hs' (idxI p hs 0)) : Ran p L hs hs' := by
  refine ⟨h.1, fun i x hx => ?_⟩
  rw [h.2 i x hx]
  by_cases hp : p x = true
  · rw [if_pos hp, if_pos (by have := mem_idx (o := 0) hx hp; simpa using this)]
  · rw [if_neg hp, if_neg ?_]
    intro hm
    obtain ⟨j, y, h1, h2, h3⟩ := idx_mem hm
    have hij : (i : Int) = (j : Int) := by simpa using h1
    obtain rfl : i = j := by omega
    rw [hx] at h2
    injection h2 with h2
    subst h2
    exact hp h3
theorem Half.step {p : Ho → Bool} {L : Int} {hs hs' : List Ho} {ds : List Int} (h : Half p L hs hs' ds) {i : Nat} {x : Ho} (hx : hs[i]? = some x) : Half p L hs (hs'.set i (x.run L)) (ds ++ [((i : Nat) : Int)]) := by
  refine ⟨by rw [List.length_set]; exact h.1, fun j y hy => ?_⟩
  rw [List.getElem?_set]
  have hj := (List.getElem?_eq_some_iff.1 hy).1
  split
  · rename_i e
    subst e
    rw [hx] at hy
    injection hy with hy
    subst hy
    rw [if_pos (by rw [h.1]; exact hj), if_pos (by simp)]
  · rename_i e
    rw [h.2 j y hy]
    have : (((j : Nat) : Int) ∈ ds ++ [((i : Nat) : Int)]) ↔ ((j : Nat) : Int) ∈ ds := by
      simp only [List.mem_append, List.mem_singleton]
      constructor
      · rintro (h | h)
        · exact h
        · omega
      · exact Or.inl
    simp only [this]
theorem Half.at {p : Ho → Bool} {L : Int} {hs hs' : List Ho} {ds : List Int} (h : Half p L hs hs' ds) {i : Nat} {x : Ho} (hx : hs[i]? = some x) : ∃ y, hs'[i]? = some y ∧ y.run L = x.run L := by
  refine ⟨_, h.2 i x hx, ?_⟩
  split <;> rfl
theorem due_cells {W : World} {b g : Nat} {every timeout up down last : Int} {hs : List Ho} {i n : Nat} {x : Ho} (h : Hst 83 85 W b g every timeout up down last hs) (hx : hs[i]? = some x) (hn : hs.length = n) :
    W.cell? ⟨b, 5, none⟩ = some (.slice (some ⟨g, 0, none⟩) n n) ∧ W.cell? ⟨b, 4, none⟩ = some (.int .i64 last) ∧ W.frozen? ⟨g, i * 5, none⟩ = false ∧ W.frozen? ⟨g, i * 5 + 2, none⟩ = false ∧ (∃ v, W.cell? ⟨g, i * 5, none⟩ = some (.bool v)) ∧ ∃ v, W.cell? ⟨g, i * 5 + 2, none⟩ = some (.int .i64 v) := by
  subst hn
  have hh := h.host hx
  exact ⟨h.num.cell 5 _ rfl, h.num.cell 4 _ rfl, h.mayset _, h.mayset _, ⟨_, hh.1⟩, ⟨_, hh.2.2.1⟩⟩
theorem Hst.heap {T TH : Nat} {w W : World} {b g : Nat} {fails base long share last : Int} {hs : List Ho} (h : Hst T TH w b g fails base long share last hs) (hW : W.heap = w.heap) : Hst T TH W b g fails base long share last hs :=
  ⟨h.num.kept (by rw [hW]), Blk.kept h.recs (by rw [hW]), h.ne⟩
set_option maxHeartbeats 4000000 in
set_option maxRecDepth 100000 in
theorem due_any (b g : Nat) (every timeout up down last now : Int) (hs : List Ho) (w : World) (h : Hst 83 85 w b g every timeout up down last hs) (hl : hs.length ≤ 16) (ht : 0 ≤ timeout ∧ timeout ≤ 1000000) (hat : AtOk hs) (n0 : 0 ≤ now) (n1 : now ≤ 4611686018427387904) (hL : last ≤ now) :
    Calls Try.prog 28 #[.pointer (some ⟨b, 0, none⟩), .int .i64 now] w fun e w' => ∃ hs', Gives w w' (idxI (hit false every timeout now) hs 0) e ∧ Brought 83 85 b g every timeout up down now hs' w w' ∧ Ran (hit false every timeout now) now hs hs' := by
  have HH := Lib.hid h
  have HAT := Lib.hid hat
  have hb0 := h.num.lt
  have hg0 := Blk.lt h.recs
  clear h hat
  go_enter Try.func28, Try.ntmps28
  go_wp2_with fail
  refine (pbring_any b g every timeout up down last now hs _ HH.out n0 n1 hL).mono ?_
  rintro e w1 ⟨rfl, HB⟩
  go_wp2_with fail
  refine (some_any b g every timeout up down now false hs _ HB.out.1 hl ht HAT.out).mono ?_
  rintro e w2 ⟨v, rfl, ho, hf, hc⟩
  have hs2 := HB.out.2.size
  have HF := Lib.hid (fun q (hq : v.ownBlock = some q) => Nat.le_trans hs2 (hf q hq))
  have HST := Lib.hid (HB.out.1.frame hc (by simp) (by simp))
  have HCC := Lib.hid (HB.out.2.trans hc (by simp))
  have HIX := Lib.hid (fun z (hz : z ∈ idxI (hit false every timeout now) hs 0) => idx_mem hz)
  have HRAN := Lib.hid (fun hs' => @Half.ran (hit false every timeout now) now hs hs')
  have hzl := idxI_len (hit false every timeout now) hs 0
  obtain ⟨zs, hzs⟩ : ∃ q, q = idxI (hit false every timeout now) hs 0 := ⟨_, rfl⟩
  rw [← hzs] at ho HIX HRAN hzl
  have HZ := Lib.hid hzs
  clear hzs
  have HO := Lib.hid ho
  obtain ⟨A, ca, hv, hin, hbl⟩ := ho.ints
  subst hv
  have HIN := Lib.hid (And.intro hin hbl)
  have hl2 : (hs.length : Int) ≤ 16 := by omega
  clear ho hf hc hin hbl hs2 HB HAT HH
  go_wp2_with fail
  go_loopw [24] (fun iv wr => ∃ (j : Nat) (hj : List Ho), j ≤ zs.length ∧ iv = .int .i64 j ∧ Hid (Half (hit false every timeout now) now hs hj (zs.take j)) ∧ Hid (Hst 83 85 wr b g every timeout up down now hj) ∧ Hid (Chg [b, g] w2 wr)) (fun iv _ => zs.length - (intOf iv).toNat)
  case atStart => exact ⟨0, hs, by omega, rfl, Lib.hid (by simpa using Half.nil _ _ _), HST, Chg.refl _ _⟩
  case round =>
    clear HST
    obtain ⟨j, hj, hjz, rfl, HHF, HS, HC⟩ := hrel
    by_cases hjl : j < zs.length
    · obtain ⟨xa, rfl, hxc⟩ := (HIN.out.1.chg HC.out (fun x hx => by
        have q1 := HF.out _ (HIN.out.2 x hx)
        simp only [List.mem_cons, List.not_mem_nil, or_false]
        omega)).2 (by omega)
      have cz := hxc j hjl
      obtain ⟨i, x, hz, hx, -⟩ := HIX.out (zs.getD j 0) (by rw [List.getD_eq_getElem?_getD, List.getElem?_eq_getElem hjl]; simp)
      rw [Nat.zero_add] at hz
      obtain ⟨y, hy, hyr⟩ := HHF.out.at hx
      have hi : i < hs.length := (List.getElem?_eq_some_iff.1 hx).1
      have hjn : hj.length = hs.length := HHF.out.1
      have htk : zs.take (j + 1) = zs.take j ++ [((i : Nat) : Int)] := by
        rw [List.take_add_one, ← hz, List.getD_eq_getElem?_getD, List.getElem?_eq_getElem hjl]
        rfl
      rw [hz] at cz
      have HST2 := Lib.hid (HHF.out.step hx)
      rw [← htk, ← hyr] at HST2
      clear htk hyr hz hxc
      obtain ⟨ys, yo, yt, yr, yn⟩ := y
      have hij : i < hj.length := by omega
      have S0 := Lib.hid HS.out
      have S1 := Lib.hid (show Hst 83 85 (wr.setCell ⟨g, i * 5, none⟩ (.bool true)) b g every timeout up down now (hj.set i ⟨true, yo, yt, yr, yn⟩) by
        have := HS.out.put hy 0 (.bool true) ⟨true, yo, yt, yr, yn⟩ (by omega) rfl
        rwa [Nat.add_zero] at this)
      have S2 := Lib.hid (HS.out.put hy 2 (.int .i64 now) ⟨ys, yo, now, yr, yn⟩ (by omega) rfl)
      have S3 := Lib.hid (S1.out.again hij 2 (.int .i64 now) ⟨true, yo, now, yr, yn⟩ (by omega) rfl)
      have S4 := Lib.hid (show Hst 83 85 ((wr.setCell ⟨g, i * 5 + 2, none⟩ (.int .i64 now)).setCell ⟨g, i * 5, none⟩ (.bool true)) b g every timeout up down now (hj.set i ⟨true, yo, now, yr, yn⟩) by
        have := S2.out.again hij 0 (.bool true) ⟨true, yo, now, yr, yn⟩ (by omega) rfl
        rwa [Nat.add_zero] at this)
      have g1 : ∀ z : Ho, (hj.set i z)[i]? = some z := fun z => List.getElem?_set_self hij
      have g2 : ∀ z : Ho, (hj.set i z).length = hs.length := fun z => by rw [List.length_set, hjn]
      have K0 := Lib.hid (fun (W : World) (hW : W.heap = wr.heap) => due_cells (S0.out.heap hW) hy hjn)
      have K1 := Lib.hid (fun (W : World) (hW : W.heap = (wr.setCell ⟨g, i * 5, none⟩ (.bool true)).heap) => due_cells (S1.out.heap hW) (g1 _) (g2 _))
      have K2 := Lib.hid (fun (W : World) (hW : W.heap = (wr.setCell ⟨g, i * 5 + 2, none⟩ (.int .i64 now)).heap) => due_cells (S2.out.heap hW) (g1 _) (g2 _))
      have K3 := Lib.hid (fun (W : World) (hW : W.heap = ((wr.setCell ⟨g, i * 5, none⟩ (.bool true)).setCell ⟨g, i * 5 + 2, none⟩ (.int .i64 now)).heap) => due_cells (S3.out.heap hW) (g1 _) (g2 _))
      have K4 := Lib.hid (fun (W : World) (hW : W.heap = ((wr.setCell ⟨g, i * 5 + 2, none⟩ (.int .i64 now)).setCell ⟨g, i * 5, none⟩ (.bool true)).heap) => due_cells (S4.out.heap hW) (g1 _) (g2 _))
      have k0 := K0.out wr rfl
      obtain ⟨c5, c4, f0, f2, ⟨v0, d0⟩, v2, d2⟩ := k0
      have hii : (i : Int) < (hs.length : Int) := by omega
      have hjl2 : (j : Int) < (zs.length : Int) := by omega
      clear g1 g2 hx hy
      go_wp2_with fail
      go_region_held3 (fun w' => w'.cell? ⟨b, 5, none⟩ = some (.slice (some ⟨g, 0, none⟩) hs.length hs.length) ∧ w'.cell? ⟨b, 4, none⟩ = some (.int .i64 now) ∧ w'.frozen? ⟨g, i * 5, none⟩ = false ∧ w'.frozen? ⟨g, i * 5 + 2, none⟩ = false ∧ (∃ v, w'.cell? ⟨g, i * 5, none⟩ = some (.bool v)) ∧ ∃ v, w'.cell? ⟨g, i * 5 + 2, none⟩ = some (.int .i64 v))
        (first | exact K0.out _ rfl | exact K1.out _ rfl | exact K2.out _ rfl | exact K3.out _ rfl | exact K4.out _ rfl)
        (fail)
      all_goals
        clear c5 c4 f0 f2 d0 d2 K0 K1 K2 K3 K4
        go_wp2_with fail
        go_roundw
        case rel => exact ⟨j + 1, _, by omega, by go_num, HST2, (by first | exact S3.out.heap rfl | exact S4.out.heap rfl), (by repeat (first | exact HC.out | refine Chg.drew ?_ | refine Chg.setCell ?_ (by simp) _))⟩
        case measure => simp [intOf]; omega
    · have e : j = zs.length := by omega
      have E1 := Lib.hid (show zs.take j = zs by rw [e]; simp)
      rw [E1.out] at HHF
      have HO2 := Lib.hid (HO.out.chg HC.out (fun q hq => by
        have := HF.out q hq
        simp only [List.mem_cons, List.not_mem_nil, or_false]
        omega))
      go_wp2_with fail
      go_ret2
      exact ⟨hj, ⟨_, rfl, by rw [← HZ.out]; exact HO2.out, HF.out⟩, ⟨HS.out, HCC.out.trans HC.out (fun i hi _ => hi)⟩, HRAN.out _ HHF.out⟩
theorem healthy_nil (i : Int) (w : World) : Calls Try.prog 30 #[.pointer none, .int .i64 i] w fun e w' => e = .returned (.bool false) ∧ w = w' := by
  go_enter Try.func30, Try.ntmps30
  go_wp2
  go_ret
  exact ⟨rfl, rfl⟩
theorem healthy_any (b g : Nat) (every timeout up down last : Int) (hs : List Ho) (w : World) (h : Hst 83 85 w b g every timeout up down last hs) (i : Nat) (x : Ho) (hx : hs[i]? = some x) : Calls Try.prog 30 #[.pointer (some ⟨b, 0, none⟩), .int .i64 i] w fun e w' => e = .returned (.bool (!x.out)) ∧ w = w' := by
  have c5 := h.num.cell 5 _ rfl
  obtain ⟨d0, d1, d2, d3, d4⟩ := h.host hx
  have hi : (i : Int) < (hs.length : Int) := by
    have := (List.getElem?_eq_some_iff.1 hx).1
    omega
  have hi0 : (0 : Int) ≤ (i : Int) := by omega
  clear h hx
  go_enter Try.func30, Try.ntmps30
  go_wp2
  go_ret
  exact ⟨rfl, rfl⟩
end Go.Proofs.Yteaepadamhmknaa
