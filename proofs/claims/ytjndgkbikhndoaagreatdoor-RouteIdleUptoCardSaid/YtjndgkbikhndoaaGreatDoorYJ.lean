/- Layer 14 (route), in plain words: a route in front that takes nothing; a field that no route asks for. -/
import Derived.Test.YtjndgkbikhndoaaGreatDoorYG
namespace Go.Proofs.YtjndgkbikhndoaaGreatDoor
open Go.RowKit Go.ChangeShapes Go.WideShapes
set_option linter.unusedVariables false

theorem takK_front (q : Rt) (rs : List Rt) (h : Hd) (ho pa : ByteArray) (n : Nat) : takK (q :: rs) h ho pa (n + 1) = (if takesB q.m h ho pa = true then [0] else []) ++ (takK rs h ho pa n).map (· + 1) := by
  unfold takK
  rw [List.range_succ_eq_map, List.filter_cons, List.filter_map]
  have e0 : (q :: rs).getD 0 zRt = q := rfl
  have e1 : ((fun i => takesB ((q :: rs).getD i zRt).m h ho pa) ∘ Nat.succ) = (fun i => takesB (rs.getD i zRt).m h ho pa) := by
    funext i
    rfl
  rw [e0, e1]
  split <;> rfl
theorem bestI_front (q : Rt) (rs : List Rt) (x m : Nat) : bestI (q :: rs) (x + 1) (m + 1) = bestI rs x m := by
  unfold bestI bestZ
  have e1 : (q :: rs).getD (x + 1) zRt = rs.getD x zRt := rfl
  have e2 : (q :: rs).getD (m + 1) zRt = rs.getD m zRt := rfl
  have e3 : cmpZ ((x + 1 : Nat) : Int) ((m + 1 : Nat) : Int) = cmpZ x m := by
    unfold cmpZ
    by_cases h1 : (x : Int) < m
    · rw [if_pos h1, if_pos (by omega)]
    · rw [if_neg h1, if_neg (by omega)]
      by_cases h2 : (m : Int) < x
      · rw [if_pos h2, if_pos (by omega)]
      · rw [if_neg h2, if_neg (by omega)]
  rw [e1, e2, e3]
theorem minF_front (q : Rt) (rs : List Rt) : ∀ (l : List Nat) (x : Nat), minF (q :: rs) (x + 1) (l.map (· + 1)) = minF rs x l + 1
  | [], x => rfl
  | y :: l, x => by
    show minF (q :: rs) (minS (q :: rs) (x + 1) (y + 1)) (l.map (· + 1)) = minF rs (minS rs x y) l + 1
    have e : minS (q :: rs) (x + 1) (y + 1) = minS rs x y + 1 := by
      unfold minS
      rw [bestI_front]
      split <;> rfl
    rw [e]
    exact minF_front q rs l _
/-- One and the same answer where Place has but one. -/
theorem find_fun {c : Cf} {h : Hd} {i1 e1 i2 e2 : Int} (hpf : ∀ r1 r2, PlaceIs h r1 → PlaceIs h r2 → r1 = r2) (h1 : FindIs c h i1 e1) (h2 : FindIs c h i2 e2) : i1 = i2 ∧ e1 = e2 := by
  rcases h1 with ⟨a1, rfl, rfl⟩ | ⟨a1, r1, p1, q1⟩
  · rcases h2 with ⟨-, rfl, rfl⟩ | ⟨a2, -⟩
    · exact ⟨rfl, rfl⟩
    · rw [a1] at a2
      cases a2
  · rcases h2 with ⟨a2, -⟩ | ⟨-, r2, p2, q2⟩
    · rw [a1] at a2
      cases a2
    · obtain rfl := hpf _ _ p1 p2
      rcases q1 with ⟨n1, rfl, rfl⟩ | ⟨n1, q1⟩
      · rcases q2 with ⟨-, rfl, rfl⟩ | ⟨n2, -⟩
        · exact ⟨rfl, rfl⟩
        · exact absurd n2 n1
      · rcases q2 with ⟨n2, -⟩ | ⟨-, q2⟩
        · exact absurd n1 n2
        · rcases q1 with ⟨l1, rfl, rfl⟩ | ⟨x, l, l1, rfl, rfl⟩
          · rcases q2 with ⟨-, rfl, rfl⟩ | ⟨y, l', l2, -⟩
            · exact ⟨rfl, rfl⟩
            · rw [l1] at l2
              cases l2
          · rcases q2 with ⟨l2, -⟩ | ⟨y, l', l2, rfl, rfl⟩
            · rw [l1] at l2
              cases l2
            · rw [l1] at l2
              injection l2 with e1 e2
              subst e1 e2
              exact ⟨rfl, rfl⟩
/-- RouteIdle: a route in front that takes nothing. -/
theorem idle_law {c : Cf} {q : Rt} {h : Hd} {i e k f : Int} (hpf : ∀ r1 r2, PlaceIs h r1 → PlaceIs h r2 → r1 = r2) (hr : rightB c = true) (hr2 : rightB { c with routes := q :: c.routes } = true) (hq : ∀ ho pa, takesB q.m h ho pa = false)
    (h1 : FindIs c h i e) (h2 : FindIs { c with routes := q :: c.routes } h k f) : (e ≠ 0 ∧ e = f ∧ k = 0) ∨ (e = 0 ∧ f = 0 ∧ k = i + 1) := by
  rcases h1 with ⟨a1, -⟩ | ⟨-, r1, p1, q1⟩
  · rw [hr] at a1
    cases a1
  · rcases h2 with ⟨a2, -⟩ | ⟨-, r2, p2, q2⟩
    · rw [hr2] at a2
      cases a2
    · obtain rfl := hpf _ _ p1 p2
      have ht : takK (q :: c.routes) h r1.1 r1.2.1 (c.routes.length + 1) = (takK c.routes h r1.1 r1.2.1 c.routes.length).map (· + 1) := by
        rw [takK_front, hq, if_neg (by decide)]
        rfl
      have q2 : ((r1.2.2 ≠ 0 ∧ k = 0 ∧ f = r1.2.2) ∨ (r1.2.2 = 0 ∧ ((takK (q :: c.routes) h r1.1 r1.2.1 (c.routes.length + 1) = [] ∧ k = 0 ∧ f = 6) ∨ (∃ x l, takK (q :: c.routes) h r1.1 r1.2.1 (c.routes.length + 1) = x :: l ∧ k = (minF (q :: c.routes) x l : Nat) ∧ f = 0)))) := q2
      rw [ht] at q2
      rcases q1 with ⟨n1, rfl, rfl⟩ | ⟨n1, q1⟩
      · rcases q2 with ⟨-, rfl, rfl⟩ | ⟨n2, -⟩
        · exact .inl ⟨n1, rfl, rfl⟩
        · exact absurd n2 n1
      · rcases q2 with ⟨n2, -⟩ | ⟨-, q2⟩
        · exact absurd n1 n2
        · rcases q1 with ⟨l1, rfl, rfl⟩ | ⟨x, l, l1, rfl, rfl⟩
          · rw [l1] at q2
            rcases q2 with ⟨-, rfl, rfl⟩ | ⟨y, l', l2, -⟩
            · exact .inl ⟨by decide, rfl, rfl⟩
            · cases l2
          · rw [l1, List.map_cons] at q2
            rcases q2 with ⟨l2, -⟩ | ⟨y, l', l2, rfl, rfl⟩
            · cases l2
            · injection l2 with e1 e2
              subst e1 e2
              refine .inr ⟨rfl, rfl, ?_⟩
              rw [minF_front]
              omega
theorem same_size {a b : ByteArray} (h : sameB a b = true) : a.size = b.size := by
  unfold sameB at h
  have h1 := of_decide_eq_true h
  have h2 := congrArg List.length h1
  rw [Lib.toList_data, Lib.toList_data, toList_len, toList_len, low_size, low_size] at h2
  exact h2
def moreN : ByteArray := ⟨#[88, 45, 77, 111, 114, 101]⟩
def Hd.more (h : Hd) (v : ByteArray) : Hd := { h with fields := h.fields ++ [(moreN, v)] }
theorem allB_more (fs : List Fd) (v name : ByteArray) (hn : name.size ≠ 6) : allB (fs ++ [(moreN, v)]) name = allB fs name := by
  unfold allB
  rw [List.filter_append, List.filter_cons, List.filter_nil]
  have : sameB moreN name = false := by
    rw [Bool.eq_false_iff]
    intro h
    exact hn (same_size h).symm
  rw [this]
  simp
theorem takes_more {m : Mt} (h : Hd) (v ho pa : ByteArray) (hm : m.header.size ≠ 6) : takesB m (h.more v) ho pa = takesB m h ho pa := by
  have e : askB m (h.more v) = askB m h := by
    unfold askB Hd.more gotB getB
    rw [allB_more _ _ _ hm]
  unfold takesB
  rw [e]
  rfl
theorem place_more {h : Hd} {v : ByteArray} {r : ByteArray × ByteArray × Int} : PlaceIs (h.more v) r ↔ PlaceIs h r := by
  have e : ∀ th, hostOf (h.more v) th = hostOf h th := fun th => by
    unfold hostOf
    rw [show allB (h.more v).fields hostN = allB h.fields hostN from allB_more _ _ _ (by decide)]
    rfl
  have e2 : ∀ f th tp er, placeG (h.more v) f th tp er = placeG h f th tp er := fun f th tp er => by
    unfold placeG
    rw [e]
  unfold PlaceIs
  constructor
  · rintro (h1 | ⟨h1, a1, f, th, p, tp, q, a, er, h2, h3, rfl⟩)
    · exact .inl h1
    · exact .inr ⟨h1, a1, f, th, p, tp, q, a, er, h2, h3, e2 _ _ _ _⟩
  · rintro (h1 | ⟨h1, a1, f, th, p, tp, q, a, er, h2, h3, rfl⟩)
    · exact .inl h1
    · exact .inr ⟨h1, a1, f, th, p, tp, q, a, er, h2, h3, (e2 _ _ _ _).symm⟩
theorem takK_more (rs : List Rt) (h : Hd) (v ho pa : ByteArray) (hm : ∀ r, r ∈ rs → r.m.header.size ≠ 6) (n : Nat) (hn : n ≤ rs.length) : takK rs (h.more v) ho pa n = takK rs h ho pa n := by
  unfold takK
  refine List.filter_congr (fun i hi => ?_)
  rw [List.mem_range] at hi
  obtain ⟨r, hr⟩ : ∃ r, rs[i]? = some r := ⟨_, List.getElem?_eq_getElem (by omega)⟩
  rw [getD_of hr, takes_more _ _ _ _ (hm r (List.mem_of_getElem? hr))]
/-- RouteMore: a field that no route asks for. -/
theorem more_law {c : Cf} {h : Hd} {v : ByteArray} {i e k f : Int} (hpf : ∀ r1 r2, PlaceIs h r1 → PlaceIs h r2 → r1 = r2) (hm : ∀ r, r ∈ c.routes → r.m.header.size ≠ 6) (h1 : FindIs c h i e) (h2 : FindIs c (h.more v) k f) : i = k ∧ e = f := by
  refine find_fun hpf h1 ?_
  rcases h2 with h2 | ⟨a2, r, p2, q2⟩
  · exact .inl h2
  · refine .inr ⟨a2, r, place_more.1 p2, ?_⟩
    rw [takK_more _ _ _ _ _ hm _ (Nat.le_refl _)] at q2
    exact q2
end Go.Proofs.YtjndgkbikhndoaaGreatDoor
