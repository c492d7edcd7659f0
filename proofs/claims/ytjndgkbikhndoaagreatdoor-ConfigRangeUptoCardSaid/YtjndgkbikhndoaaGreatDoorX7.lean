/- Layer 13 (config), in plain words: one number of a right configuration is set. And its table. -/
import Derived.Test.YtjndgkbikhndoaaGreatDoorX5
namespace Go.Proofs.YtjndgkbikhndoaaGreatDoor
open Go.RowKit Go.ChangeShapes Go.WideShapes
set_option linter.unusedVariables false
set_option linter.unusedSimpArgs false

theorem setR_right {c : Cf} {r : Rt} {l : List Rt} (h : rightB c = true) (hc : c.routes = r :: l) (r' : Rt) (hm : r'.m = r.m) (hh : r'.hosts = r.hosts) (q : Bool) (hq : allR r.nums = true → allR r'.nums = q) : rightB { c with routes := r' :: l } = q := by
  rw [right_chain] at h
  simp only [Bool.and_eq_true] at h
  obtain ⟨a1, a2, ⟨a3, a4⟩, a5, a6, a7, a8, a9⟩ := h
  rw [hc, List.all_cons, Bool.and_eq_true] at a5
  obtain ⟨b1, b2⟩ := a5
  rw [route_chain] at b1
  simp only [Bool.and_eq_true] at b1
  obtain ⟨m1, m2, m3, m4, m5⟩ := b1
  have hro : routeOK r' c.hosts.length = q := by
    rw [route_chain, hm, hh, m1, m3, m4, m5, hq m2]
    cases q <;> rfl
  have hl : inR (r' :: l).length 1 16 = true := by rw [hc] at a2; exact a2
  rw [right_chain]
  show (inR c.hosts.length 1 16 && (inR (r' :: l).length 1 16 && ((c.hosts.all htOK && decide (c.hosts.map (fun h => h.name)).Nodup) && ((r' :: l).all (fun r => routeOK r c.hosts.length) && (probesB c && (outB c && (sizesB c && restB c))))))) = q
  rw [a1, hl, a3, a4, List.all_cons, hro, b2, a6, a7, a8, a9]
  cases q <;> rfl
theorem setC_right {c c' : Cf} (h : rightB c = true) (h1 : c'.hosts = c.hosts) (h2 : c'.routes = c.routes) (h3 : c'.every = c.every) (h4 : c'.path = c.path) (q : Bool) (hq : allR c.nums = true → allR c'.nums = q) : rightB c' = q := by
  have R := rgt_of h
  have hp : pathOK c' = true := by
    have := R.pa
    unfold pathOK at this ⊢
    rw [h3, h4]
    exact this
  have nd : (c.hosts.map (·.name)).Nodup := R.nd
  unfold rightB
  rw [h1, h2, R.ho, decide_eq_true nd, R.ro, hp, hq R.nu, decide_eq_true R.h1, decide_eq_true R.h2, decide_eq_true R.r1, decide_eq_true R.r2]
  cases q <;> rfl
theorem num_per (r : Rt) (n : Int) (h : allR r.nums = true) : allR (Rt.nums { r with per := n }) = inR n 1 M6 := by
  rw [nums_chain] at h ⊢
  simp only [Bool.and_eq_true] at h
  obtain ⟨k1, k2, k3, k4, k5, k6, k7, k8, k9, k10, k11, k12, k13, k14, k15⟩ := h
  dsimp only
  simp only [k1, k2, k3, k4, k5, k6, k7, k8, k9, k10, k11, k12, k13, k14, k15, Bool.true_and, Bool.and_true]
theorem num_rate (r : Rt) (n : Int) (h : allR r.nums = true) : allR (Rt.nums { r with rate := n }) = inR n 0 M6 := by
  rw [nums_chain] at h ⊢
  simp only [Bool.and_eq_true] at h
  obtain ⟨k1, k2, k3, k4, k5, k6, k7, k8, k9, k10, k11, k12, k13, k14, k15⟩ := h
  dsimp only
  simp only [k1, k2, k3, k4, k5, k6, k7, k8, k9, k10, k11, k12, k13, k14, k15, Bool.true_and, Bool.and_true]
theorem num_retries (r : Rt) (n : Int) (h : allR r.nums = true) : allR (Rt.nums { r with retries := n }) = inR n 0 5 := by
  rw [nums_chain] at h ⊢
  simp only [Bool.and_eq_true] at h
  obtain ⟨k1, k2, k3, k4, k5, k6, k7, k8, k9, k10, k11, k12, k13, k14, k15⟩ := h
  dsimp only
  simp only [k1, k2, k3, k4, k5, k6, k7, k8, k9, k10, k11, k12, k13, k14, k15, Bool.true_and, Bool.and_true]
theorem num_hedges (r : Rt) (n : Int) (h : allR r.nums = true) : allR (Rt.nums { r with hedges := n }) = inR n 0 3 := by
  rw [nums_chain] at h ⊢
  simp only [Bool.and_eq_true] at h
  obtain ⟨k1, k2, k3, k4, k5, k6, k7, k8, k9, k10, k11, k12, k13, k14, k15⟩ := h
  dsimp only
  simp only [k1, k2, k3, k4, k5, k6, k7, k8, k9, k10, k11, k12, k13, k14, k15, Bool.true_and, Bool.and_true]
theorem num_percent (r : Rt) (n : Int) (h : allR r.nums = true) : allR (Rt.nums { r with percent := n }) = inR n 0 100 := by
  rw [nums_chain] at h ⊢
  simp only [Bool.and_eq_true] at h
  obtain ⟨k1, k2, k3, k4, k5, k6, k7, k8, k9, k10, k11, k12, k13, k14, k15⟩ := h
  dsimp only
  simp only [k1, k2, k3, k4, k5, k6, k7, k8, k9, k10, k11, k12, k13, k14, k15, Bool.true_and, Bool.and_true]
theorem cnums_chain (c : Cf) : allR c.nums = (inR c.every 0 M6 && (inR c.timeout 1 M6 && (inR c.up 1 100 && (inR c.down 1 100 && (inR c.fails 0 1000 && (inR c.base 1 M6 && (inR c.longest (max 1 c.base) M6 && (inR c.share 0 100 && (inR c.maxHead 16 65536 && (inR c.maxBody 0 1048576 && (inR c.maxOut 1 1048576 && (inR c.headTime 1 M6 && (inR c.idle 1 M6 && (inR c.life 1 M6 && inR c.clients 1 256)))))))))))))) := by
  unfold allR Cf.nums
  simp only [List.all_cons, List.all_nil, Bool.and_true]
theorem cnum_maxHead (c : Cf) (n : Int) (h : allR c.nums = true) : allR (Cf.nums { c with maxHead := n }) = inR n 16 65536 := by
  rw [cnums_chain] at h ⊢
  simp only [Bool.and_eq_true] at h
  obtain ⟨k1, k2, k3, k4, k5, k6, k7, k8, k9, k10, k11, k12, k13, k14, k15⟩ := h
  dsimp only
  simp only [k1, k2, k3, k4, k5, k6, k7, k8, k9, k10, k11, k12, k13, k14, k15, Bool.true_and, Bool.and_true]
theorem cnum_clients (c : Cf) (n : Int) (h : allR c.nums = true) : allR (Cf.nums { c with clients := n }) = inR n 1 256 := by
  rw [cnums_chain] at h ⊢
  simp only [Bool.and_eq_true] at h
  obtain ⟨k1, k2, k3, k4, k5, k6, k7, k8, k9, k10, k11, k12, k13, k14, k15⟩ := h
  dsimp only
  simp only [k1, k2, k3, k4, k5, k6, k7, k8, k9, k10, k11, k12, k13, k14, k15, Bool.true_and, Bool.and_true]
theorem cnum_idle (c : Cf) (n : Int) (h : allR c.nums = true) : allR (Cf.nums { c with idle := n }) = inR n 1 M6 := by
  rw [cnums_chain] at h ⊢
  simp only [Bool.and_eq_true] at h
  obtain ⟨k1, k2, k3, k4, k5, k6, k7, k8, k9, k10, k11, k12, k13, k14, k15⟩ := h
  dsimp only
  simp only [k1, k2, k3, k4, k5, k6, k7, k8, k9, k10, k11, k12, k13, k14, k15, Bool.true_and, Bool.and_true]
theorem setR_sz {c : Cf} {r : Rt} {l : List Rt} (h : CfSz c) (hc : c.routes = r :: l) (r' : Rt) (hm : r'.m = r.m) (hh : r'.hosts = r.hosts) : CfSz { c with routes := r' :: l } := by
  refine ⟨h.hs, fun x hx => ?_, h.hn, by show (r' :: l).length ≤ _; have := h.rn; rw [hc] at this; exact this, h.path⟩
  rcases List.mem_cons.1 hx with rfl | hx
  · have q := h.rs r (by rw [hc]; simp)
    exact ⟨by rw [hm]; exact q.m, by rw [hh]; exact q.hn⟩
  · exact h.rs x (by rw [hc]; simp [hx])
/-- What a configuration's routes have besides numbers. -/
def mhs (rs : List Rt) : List (Mt × List Int) := rs.map (fun r => (r.m, r.hosts))
def rtF' (x : Rt × Value × Value) : List Value := rtRow x.1 x.2.1 x.2.2
theorem rows_of {w w' : World} {v v' : Value} {rs rs' : List Rt} {ps : List (Value × Value)} (h : RtsAt w v rs ps) (hc : Chg [] w w') (hm : mhs rs' = mhs rs) (ht : Tbl w' v' 21 ((rs'.zip ps).map (fun x => rtRow x.1 x.2.1 x.2.2))) : RtsAt w' v' rs' ps := by
  have hl : rs'.length = rs.length := by
    have := congrArg List.length hm
    unfold mhs at this
    rwa [List.length_map, List.length_map] at this
  refine ⟨by rw [hl]; exact h.len, ht, fun i r p hr hp => ?_⟩
  obtain ⟨q, hq⟩ : ∃ q, rs[i]? = some q := ⟨_, List.getElem?_eq_getElem (by have := (List.getElem?_eq_some_iff.1 hr).1; omega)⟩
  have he : (r.m, r.hosts) = (q.m, q.hosts) := by
    have := congrArg (fun l => l[i]?) hm
    unfold mhs at this
    simp only [List.getElem?_map, hr, hq, Option.map_some] at this
    exact Option.some.inj this
  obtain ⟨e1, e2⟩ := Prod.mk.inj he
  have ha := (h.each i q p hq hp).chg hc
  exact ⟨by rw [e1]; exact ha.ms, by rw [e2]; exact ha.hs⟩
/-- The first row of a table is set at one place. -/
theorem row_tbl {w : World} {g cap j : Nat} {cur : List Value} {u : Value} {row row' : List Value} {rows : List (List Value)} (hB : Blk w g cur 42) (h : cur.take ((row :: rows).length * 21) = (row :: rows).flatten) (hr : row' = row.set j u) (hj : j < row.length) (hk : ∀ r, r ∈ row :: rows → r.length = 21) (hc : (row :: rows).length ≤ cap) :
    Tbl (w.setCell ⟨g, j, none⟩ u) (.slice (some ⟨g, 0, none⟩) (row :: rows).length cap) 21 (row' :: rows) := by
  have q := Tbl.of_take (k := 21) (cap := cap) (rows := row' :: rows) (hB.set j u) (by
    show (cur.set j u).take ((row :: rows).length * 21) = _
    rw [List.take_set, h, List.flatten_cons, List.flatten_cons, hr, List.set_append_left _ _ hj]) (by
    intro r hm
    rcases List.mem_cons.1 hm with rfl | hm
    · rw [hr, List.length_set]
      exact hk row (by simp)
    · exact hk r (by simp [hm])) (by exact hc)
  exact q
end Go.Proofs.YtjndgkbikhndoaaGreatDoor
