/- Equal lists of texts, of fields. -/
import Derived.Test.YtiimofejcakgoaaDoorF3
namespace Go.Proofs.YtiimofejcakgoaaDoor
open Go.RowKit Go.ChangeShapes Go.WideShapes
set_option linter.unusedVariables false

theorem beq_self_bytes (a : ByteArray) : (a.toList == a.toList) = true := beq_self_eq_true _
set_option maxHeartbeats 8000000 in
set_option maxRecDepth 100000 in
theorem texts_eq (B B' : Nat) (u v : Value) (ts : List ByteArray) (w : World) (hu : Hid (OwnS B w u ts)) (hv : Hid (OwnS B' w v ts)) (hl : ts.length ≤ 4000000) :
    Calls Tryd.prog 12 #[u, v] w fun e w' => e = .returned (.bool true) ∧ Hid (Chg [] w w') := by
  obtain ⟨A, cp, rfl⟩ := hu.out.form
  obtain ⟨A2, cp2, rfl⟩ := hv.out.form
  have hne : ((ts.length : Int) == (ts.length : Int)) = true := beq_self_eq_true _
  go_enter Tryd.func12, Tryd.ntmps12
  go_wp2
  go_loopw [13] (fun i wr => ∃ k m : Nat, i = .int .i64 k ∧ k ≤ ts.length ∧ wr = w.drewN m) (fun i _ => ts.length - (intOf i).toNat)
  case atStart => exact ⟨0, 0, rfl, by omega, rfl⟩
  case round =>
    obtain ⟨k, m, rfl, hk, rfl⟩ := hrel
    by_cases hlt : k < ts.length
    · obtain ⟨x, hx⟩ : ∃ x, ts[k]? = some x := ⟨_, List.getElem?_eq_getElem hlt⟩
      obtain ⟨g, cp3, he, hcp, hg, hcells⟩ := hu.out.read (by omega)
      obtain ⟨rfl, rfl⟩ : A = some ⟨g, 0, none⟩ ∧ cp = cp3 := by injection he with h1 h2 h3; exact ⟨h1, h3⟩
      obtain ⟨g2, cp4, he2, hcp2, hg2, hcells2⟩ := hv.out.read (by omega)
      obtain ⟨rfl, rfl⟩ : A2 = some ⟨g2, 0, none⟩ ∧ cp2 = cp4 := by injection he2 with h1 h2 h3; exact ⟨h1, h3⟩
      have c1 := hcells k x hx
      have c2 := hcells2 k x hx
      have hb := beq_self_bytes x
      clear hcells hcells2 he he2 hx
      go_wp2
      go_quiet (fail)
      go_wp2
      go_roundw
      case rel => exact ⟨k + 1, m + nq, by go_num, by omega, rfl⟩
      case measure => simp [intOf]; omega
    · go_wp2
      go_ret
      exact ⟨rfl, (Chg.refl _ _).drewN _⟩
set_option maxHeartbeats 8000000 in
set_option maxRecDepth 100000 in
theorem fields_eq (u v : Value) (fs : List Fd) (w : World) (hu : Hid (Flds w u fs)) (hv : Hid (Flds w v fs)) (hl : fs.length ≤ 4000000) :
    Calls Tryd.prog 21 #[u, v] w fun e w' => e = .returned (.bool true) ∧ Hid (Chg [] w w') := by
  obtain ⟨A, cp, rfl, hcp, hr⟩ := hu.out
  obtain ⟨A2, cp2, rfl, hcp2, hr2⟩ := hv.out
  have HR := Lib.hid hr
  have HR2 := Lib.hid hr2
  clear hr hr2
  have hne : ((fs.length : Int) == (fs.length : Int)) = true := beq_self_eq_true _
  go_enter Tryd.func21, Tryd.ntmps21
  go_wp2
  go_loopw [13] (fun i wr => ∃ k m : Nat, i = .int .i64 k ∧ k ≤ fs.length ∧ wr = w.drewN m) (fun i _ => fs.length - (intOf i).toNat)
  case atStart => exact ⟨0, 0, rfl, by omega, rfl⟩
  case round =>
    obtain ⟨k, m, rfl, hk, rfl⟩ := hrel
    by_cases hlt : k < fs.length
    · obtain ⟨f, hfk⟩ : ∃ f, fs[k]? = some f := ⟨_, List.getElem?_eq_getElem hlt⟩
      obtain ⟨b, o, rfl, hbs, hx⟩ := HR.out (by omega)
      obtain ⟨b2, o2, rfl, hbs2, hx2⟩ := HR2.out (by omega)
      obtain ⟨n, x⟩ := f
      have c1 := (hx k _ hfk).1
      have c2 := (hx k _ hfk).2
      have c3 := (hx2 k _ hfk).1
      have c4 := (hx2 k _ hfk).2
      dsimp only at c1 c2 c3 c4
      clear hx hx2 hfk
      go_wp2
      go_quiet (fail)
      go_wp2
      go_roundw
      case rel => exact ⟨k + 1, m + nq, by go_num, by omega, rfl⟩
      case measure => simp [intOf]; omega
    · go_wp2
      go_ret
      exact ⟨rfl, (Chg.refl _ _).drewN _⟩
end Go.Proofs.YtiimofejcakgoaaDoor
