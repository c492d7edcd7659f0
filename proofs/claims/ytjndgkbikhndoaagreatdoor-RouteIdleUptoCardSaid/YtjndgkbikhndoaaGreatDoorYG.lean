/- Layer 14 (route), in plain words: the best route; a request's host and path, asked twice. -/
import Derived.Test.YtjndgkbikhndoaaGreatDoorYF
namespace Go.Proofs.YtjndgkbikhndoaaGreatDoor
open Go.RowKit Go.ChangeShapes Go.WideShapes
set_option linter.unusedVariables false

theorem place_same {h : Hd} {r1 r2 : ByteArray × ByteArray × Int} (h1 : PlaceIs h r1) (h2 : PlaceIs h r2) : r1 = r2 ∨ (r1.2.2 ≠ 0 ∧ r2.2.2 ≠ 0) := by
  rcases h1 with ⟨a1, rfl⟩ | ⟨a1, v, f, th, p, tp, q, a, er, hv, hp, rfl⟩
  · rcases h2 with ⟨-, rfl⟩ | ⟨a2, -⟩
    · exact .inl rfl
    · rw [a1] at a2
      cases a2
  · rcases h2 with ⟨a2, -⟩ | ⟨-, v', f', th', p', tp', q', a', er', hv', hp', rfl⟩
    · rw [a1] at a2
      cases a2
    · by_cases e1 : er = 0
      · subst e1
        have ht := (takes_any hv _).1 hp
        have hq := (takes_any hv' _).2 ht
        rw [hq] at hp'
        obtain ⟨b1, b2⟩ := Prod.mk.inj hp'
        obtain ⟨c1, c2, c3, c4, c5, c6⟩ := tgt_inj.1 b1
        subst c1 c2 c4
        exact .inl (by rw [← b2])
      · by_cases e2 : er' = 0
        · subst e2
          have ht := (takes_any hv' _).1 hp'
          have hq := (takes_any hv _).2 ht
          rw [hq] at hp
          exact absurd (Prod.mk.inj hp).2.symm e1
        · refine .inr ⟨?_, ?_⟩
          · unfold placeG
            rw [if_neg e1]
            exact e1
          · unfold placeG
            rw [if_neg e2]
            exact e2
/-- One route is better than another. -/
def ltK (ra pa a rb pb b : Int) : Prop := rb < ra ∨ (ra = rb ∧ (pb < pa ∨ (pa = pb ∧ a < b)))
theorem orZ3 (x y z : Int) : orZ [x, y, z] = if x ≠ 0 then x else if y ≠ 0 then y else z := by
  unfold orZ
  by_cases hx : x = 0
  · by_cases hy : y = 0
    · by_cases hz : z = 0
      · simp [hx, hy, hz]
      · simp [hx, hy, hz]
    · simp [hx, hy]
  · simp [hx]
theorem bestZ_lt (x y : Mt) (a b : Int) : bestZ x y a b < 0 ↔ ltK (rankZ x.host) x.pre.size a (rankZ y.host) y.pre.size b := by
  unfold bestZ
  rw [orZ3]
  unfold cmpZ ltK
  generalize rankZ x.host = rx
  generalize rankZ y.host = ry
  generalize (x.pre.size : Int) = px
  generalize (y.pre.size : Int) = py
  by_cases h1 : ry < rx
  · simp [h1]
  · by_cases h2 : rx < ry
    · simp [h1, h2]
      omega
    · have e : rx = ry := by omega
      by_cases h3 : py < px
      · simp [e, h3]
      · by_cases h4 : px < py
        · simp [e, h3, h4]
          omega
        · have e2 : px = py := by omega
          by_cases h5 : a < b
          · simp [e, e2, h5]
          · by_cases h6 : b < a
            · simp [e, e2, h5, h6]
            · simp [e, e2, h5, h6]
def lt2 (rs : List Rt) (a b : Nat) : Prop := ltK (rankZ (rs.getD a zRt).m.host) (rs.getD a zRt).m.pre.size a (rankZ (rs.getD b zRt).m.host) (rs.getD b zRt).m.pre.size b
theorem minS_of (rs : List Rt) (m x : Nat) : (lt2 rs x m ∧ minS rs m x = x) ∨ (¬ lt2 rs x m ∧ minS rs m x = m) := by
  unfold minS bestI
  by_cases h : bestZ (rs.getD x zRt).m (rs.getD m zRt).m x m < 0
  · exact .inl ⟨(bestZ_lt _ _ _ _).1 h, if_pos h⟩
  · exact .inr ⟨fun q => h ((bestZ_lt _ _ _ _).2 q), if_neg h⟩
theorem min_best (rs : List Rt) : ∀ (r : List Nat) (x0 y : Nat), y ∈ x0 :: r → ¬ lt2 rs y (minF rs x0 r)
  | [], x0, y, hy => by
    obtain rfl : y = x0 := by simpa using hy
    show ¬ lt2 rs y y
    unfold lt2 ltK
    omega
  | x :: r, x0, y, hy => by
    have ih := min_best rs r (minS rs x0 x)
    show ¬ lt2 rs y (minF rs (minS rs x0 x) r)
    rcases minS_of rs x0 x with ⟨h1, h2⟩ | ⟨h1, h2⟩
    · rw [h2] at ih ⊢
      have q := ih x (by simp)
      generalize minF rs x r = M at *
      rcases List.mem_cons.1 hy with rfl | hy
      · unfold lt2 ltK at *
        omega
      · exact ih y hy
    · rw [h2] at ih ⊢
      have q := ih x0 (by simp)
      generalize minF rs x0 r = M at *
      rcases List.mem_cons.1 hy with rfl | hy
      · exact q
      · rcases List.mem_cons.1 hy with rfl | hy
        · unfold lt2 ltK at *
          omega
        · exact ih y (List.mem_cons_of_mem _ hy)
theorem takK_mem {rs : List Rt} {h : Hd} {ho pa : ByteArray} {k x : Nat} {r : Rt} (hr : rs[x]? = some r) : x ∈ takK rs h ho pa k ↔ x < k ∧ takesB r.m h ho pa = true := by
  unfold takK
  rw [List.mem_filter, List.mem_range, getD_of hr]
/-- What RouteBest asks of the least one. -/
theorem best_law {rs : List Rt} {h : Hd} {ho pa : ByteArray} {x : Nat} {l : List Nat} (hl : takK rs h ho pa rs.length = x :: l) {k : Nat} {rk ri : Rt} (hk : rs[k]? = some rk) (hi : rs[minF rs x l]? = some ri) (ht : takesB rk.m h ho pa = true) (hh : rk.m.host = ri.m.host) :
    ¬ (ri.m.pre.size : Int) < rk.m.pre.size ∧ ¬ (k < minF rs x l ∧ (rk.m.pre.size : Int) = ri.m.pre.size) := by
  have hm : k ∈ x :: l := by
    rw [← hl]
    exact (takK_mem hk).2 ⟨(List.getElem?_eq_some_iff.1 hk).1, ht⟩
  have q := min_best rs l x k hm
  unfold lt2 ltK at q
  rw [getD_of hk, getD_of hi, hh] at q
  omega
theorem best_in {rs : List Rt} {h : Hd} {ho pa : ByteArray} {x : Nat} {l : List Nat} (hl : takK rs h ho pa rs.length = x :: l) : ∃ ri, rs[minF rs x l]? = some ri ∧ takesB ri.m h ho pa = true ∧ minF rs x l < rs.length := by
  have hm := min_mem rs l x
  rw [← hl] at hm
  have hlt := takK_lt hm
  obtain ⟨ri, hri⟩ : ∃ ri, rs[minF rs x l]? = some ri := ⟨_, List.getElem?_eq_getElem hlt⟩
  exact ⟨ri, hri, ((takK_mem hri).1 hm).2, hlt⟩
end Go.Proofs.YtjndgkbikhndoaaGreatDoor
