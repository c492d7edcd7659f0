/- Layer 14 (route), the program: the least of some routes (slices.MinFunc). -/
import Derived.Test.YtjndgkbikhndoaaGreatDoorYC
namespace Go.Proofs.YtjndgkbikhndoaaGreatDoor
open Go.RowKit Go.ChangeShapes Go.WideShapes
set_option linter.unusedVariables false

def zRt : Rt := ⟨⟨⟨#[]⟩, ⟨#[]⟩, [], ⟨#[]⟩, ⟨#[]⟩⟩, [], 0, 0, 0, 0, 0, 0, 0, 0, 0, 0, 0, 0, 0, 0, 0⟩
def bestI (rs : List Rt) (x m : Nat) : Int := bestZ (rs.getD x zRt).m (rs.getD m zRt).m x m
def minS (rs : List Rt) (m x : Nat) : Nat := if bestI rs x m < 0 then x else m
def minF (rs : List Rt) (x0 : Nat) (r : List Nat) : Nat := r.foldl (minS rs) x0
theorem min_mem (rs : List Rt) : ∀ (r : List Nat) (x0 : Nat), minF rs x0 r ∈ x0 :: r
  | [], x0 => by simp [minF]
  | x :: r, x0 => by
    have h := min_mem rs r (minS rs x0 x)
    show minF rs (minS rs x0 x) r ∈ _
    rcases List.mem_cons.1 h with h | h
    · rw [h]
      unfold minS
      split <;> simp
    · exact List.mem_cons_of_mem _ (List.mem_cons_of_mem _ h)
theorem getD_of {rs : List Rt} {i : Nat} {x : Rt} (h : rs[i]? = some x) : rs.getD i zRt = x := by
  rw [List.getD_eq_getElem?_getD, h]
  rfl
set_option maxHeartbeats 8000000 in
set_option maxRecDepth 100000 in
theorem min_any (c : Cf) (hv rv : Value) (ps : List (Value × Value)) (b : Nat) (v : Value) (x0 : Nat) (r : List Nat) (w : World) (hC : Hid (CfAt w c hv rv ps)) (hb : Hid (Blk w b (cfRow c hv rv) 36)) (hn : c.routes.length ≤ 1048576)
    (ht : Hid (Tbl w v 1 (intRows ((x0 :: r).map Int.ofNat)))) (hl : Hid (∀ x, x ∈ x0 :: r → x < c.routes.length)) (hr : r.length ≤ 1048576) :
    Calls Tryz.prog 44 #[v, .func (.func 40) #[] #[.pointer (some ⟨b, 0, none⟩)]] w fun e w' => e = .returned (.int .i64 (minF c.routes x0 r : Nat)) ∧ Hid (Chg [] w w') := by
  have hlen : (intRows ((x0 :: r).map Int.ofNat)).length = r.length + 1 := by unfold intRows; rw [List.length_map, List.length_map, List.length_cons]
  obtain ⟨A, cap, rfl⟩ := ht.out.form
  rw [hlen] at ht ⊢
  have hcap := ht.out.cap
  obtain ⟨bl, o, rfl, hbs, hx⟩ := ht.out.at1 (by rw [hlen]; omega)
  have hx0 := hx 0 (.int .i64 (x0 : Int)) (by unfold intRows; rfl)
  have HX := Lib.hid (show ∀ (j x : Nat), r[j]? = some x → w.cell? ⟨bl, o + (j + 1), none⟩ = some (.int .i64 (x : Int)) from fun j x hj => hx (j + 1) _ (by unfold intRows; rw [List.getElem?_map, List.getElem?_map, List.getElem?_cons_succ, hj]; rfl))
  rw [Nat.add_zero] at hx0
  clear hx hlen
  have eg : ∀ args w, (callFunc 40 args).run Tryz.prog w = .ok (.enter 40 args) w := enters_of Tryz.func40 (by kernel_rfl) rfl
  have hlp : ¬ ((r.length + 1 : Nat) : Int) < 1 := by omega
  go_enter Tryz.func44, Tryz.ntmps44
  go_wp2
  clear hx0
  go_loopw [5, 6] (fun m i wr => ∃ (j mm : Nat), i = .int .i64 ((j + 1 : Nat) : Int) ∧ j ≤ r.length ∧ m = .int .i64 (mm : Int) ∧ Hid (minF c.routes x0 (r.take j) = mm) ∧ Hid (Chg [] w wr)) (fun _ i _ => r.length + 1 - (intOf i).toNat)
  case atStart => exact ⟨0, x0, rfl, by omega, rfl, Lib.hid rfl, Lib.hid (Chg.refl _ _)⟩
  case round =>
    obtain ⟨j, mm, rfl, hj, rfl, HM, HC⟩ := hrel
    by_cases hlt : j < r.length
    · obtain ⟨x, hxj⟩ : ∃ x, r[j]? = some x := ⟨_, List.getElem?_eq_getElem hlt⟩
      have c1 := HC.out.cell (HX.out j x hxj) (by simp)
      have hxl := hl.out x (List.mem_cons_of_mem _ (List.mem_of_getElem? hxj))
      have hml : mm < c.routes.length := by
        refine hl.out mm ?_
        rw [← HM.out]
        rcases List.mem_cons.1 (min_mem c.routes (r.take j) x0) with q | q
        · rw [q]; simp
        · exact List.mem_cons_of_mem _ (List.mem_of_mem_take q)
      obtain ⟨rx, hrx⟩ : ∃ q, c.routes[x]? = some q := ⟨_, List.getElem?_eq_getElem hxl⟩
      obtain ⟨rm, hrm⟩ : ∃ q, c.routes[mm]? = some q := ⟨_, List.getElem?_eq_getElem hml⟩
      obtain ⟨z, hz⟩ : ∃ z, bestZ rx.m rm.m x mm = z := ⟨_, rfl⟩
      have hcall := better_any c hv rv ps b x mm rx rm wr (Lib.hid (hC.out.chg HC.out)) (Lib.hid (hb.out.chg HC.out (by simp))) hrx hrm hn z hz
      have HS := Lib.hid (show minF c.routes x0 (r.take (j + 1)) = if z < 0 then x else mm from by
        unfold minF
        rw [List.take_add_one, hxj, List.foldl_append]
        show minS c.routes (minF c.routes x0 (r.take j)) x = _
        rw [HM.out]
        unfold minS bestI
        rw [getD_of hrx, getD_of hrm, hz])
      have hji : ((j + 1 : Nat) : Int) < ((r.length + 1 : Nat) : Int) := by omega
      clear hxj hz hrx hrm hxl hml
      by_cases hz0 : z < 0
      · have HS2 := Lib.hid (HS.out.trans (if_pos hz0))
        go_wp2_with (go_at_fn 40; refine hcall.mono ?_; rintro e w2 ⟨rfl, H2⟩; have c2 := H2.out.cell c1 (by simp))
        go_roundw
        case rel => exact ⟨j + 1, x, by go_num, by omega, rfl, HS2, Lib.hid (HC.out.trans H2.out (by simp))⟩
        case measure => simp [intOf]; omega
      · have HS2 := Lib.hid (HS.out.trans (if_neg hz0))
        go_wp2_with (go_at_fn 40; refine hcall.mono ?_; rintro e w2 ⟨rfl, H2⟩)
        go_roundw
        case rel => exact ⟨j + 1, mm, by go_num, by omega, rfl, HS2, Lib.hid (HC.out.trans H2.out (by simp))⟩
        case measure => simp [intOf]; omega
    · obtain rfl : j = r.length := by omega
      rw [List.take_length] at HM
      go_wp2
      go_ret
      exact ⟨by rw [HM.out]; rfl, HC.out⟩
end Go.Proofs.YtjndgkbikhndoaaGreatDoor
