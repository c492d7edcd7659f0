/- Layer 7 (fields): speaks. -/
import Derived.Test.YtiimofejcakgoaaDoorFF
import Derived.Deep.RegionHeld3
namespace Go.Proofs.YtiimofejcakgoaaDoor
open Go.RowKit Go.ChangeShapes Go.WideShapes Go.Maps Go.WideMaps
set_option linter.unusedVariables false

theorem lit_flds {w : World} {b : Nat} {fs : List Fd} (h : Blk w b (fcells fs) 36) : Flds w (.slice (some ⟨b, 0, none⟩) fs.length fs.length) fs :=
  ⟨_, _, rfl, Nat.le_refl _, fun _ => ⟨b, 0, rfl, h.lt, fun j f hj => by
    have := fcells_get fs j f hj
    refine ⟨?_, ?_⟩
    · rw [Nat.zero_add]
      exact h.cell _ _ this.1
    · rw [Nat.zero_add]
      exact h.cell _ _ this.2⟩⟩
theorem nil0_some (a : Addr) (n c : Nat) : Nil0 (.slice (some a) n c) := fun _ _ e => by injection e with e; cases e
theorem lit_cut {w : World} {b : Nat} (h : Blk w b (fcells l3) 36) : Flds w (.slice (some ⟨b, 4, none⟩) 1 1) (l3.drop 2) :=
  ⟨_, _, rfl, Nat.le_refl _, fun _ => ⟨b, 4, rfl, h.lt, fun j f hj => by
    have h1 := (List.getElem?_eq_some_iff.1 hj).1
    have : (l3.drop 2).length = 1 := rfl
    obtain rfl : j = 0 := by omega
    have h2 : some (l3[2]) = some f := hj
    injection h2 with h2
    subst h2
    exact ⟨h.cell 4 _ rfl, h.cell 5 _ rfl⟩⟩⟩
theorem OwnF.at {B : Nat} {w : World} {v : Value} {fs : List Fd} (h : OwnF B w v fs) (j : Nat) (f : Fd) (hj : fs[j]? = some f) : ∃ g cap, v = .slice (some ⟨g, 0, none⟩) fs.length cap ∧ fs.length ≤ cap ∧ w.cell? ⟨g, j * 2 + 1, none⟩ = some (.string f.2) := by
  have hl := (List.getElem?_eq_some_iff.1 hj).1
  rcases h.2 with ⟨rfl, h0⟩ | ⟨g, cap, cur, rfl, hb, hh, h1, h2, h3, h4⟩
  · omega
  · obtain ⟨a, c, e, _, hr⟩ := h.flds
    obtain ⟨b, o, e2, _, hx⟩ := hr (by omega)
    injection e with e3 e4 e5
    rw [e2] at e3
    injection e3 with e3
    injection e3 with e6 e7
    subst e6 e7
    have := (hx j f hj).2
    rw [Nat.zero_add] at this
    exact ⟨_, cap, rfl, h1, this⟩
theorem spk_has2 : hasB l3 ⟨#[99, 111, 110, 110, 101, 99, 116, 105, 111, 110]⟩ ⟨#[67, 76, 79, 83, 69]⟩ = true := spk_has
set_option maxHeartbeats 16000000 in
set_option maxRecDepth 100000 in
theorem speaks_any (w : World) : Calls Tryd.prog 19 #[] w fun e w' => e = .returned (.bool true) ∧ Hid (Chg [] w w') := by
  have HB1 := Lib.hid (Blk.new w (fcells l3) 36)
  have HC1 := Lib.hid ((Chg.refl [] w).alloc (.cells (fcells l3).toArray 36))
  have hsame : (w.alloc (.cells (fcells l3).toArray 36)) = (w.alloc (.cells #[.string ⟨#[67, 111, 110, 110, 101, 99, 116, 105, 111, 110]⟩, .string ⟨#[99, 108, 111, 115, 101, 44, 32, 88, 45, 65]⟩, .string ⟨#[88, 45, 97]⟩, .string ⟨#[49]⟩, .string ⟨#[72, 111, 115, 116]⟩, .string ⟨#[104]⟩] 36)) := rfl
  rw [hsame] at HB1 HC1
  clear hsame
  generalize hp : w.heap.size = p at HB1
  go_enter Tryd.func19, Tryd.ntmps19
  go_wp2_with fail
  generalize w.alloc (.cells #[.string ⟨#[67, 111, 110, 110, 101, 99, 116, 105, 111, 110]⟩, .string ⟨#[99, 108, 111, 115, 101, 44, 32, 88, 45, 65]⟩, .string ⟨#[88, 45, 97]⟩, .string ⟨#[49]⟩, .string ⟨#[72, 111, 115, 116]⟩, .string ⟨#[104]⟩] 36) = w1 at HB1 HC1 ⊢
  clear hp
  have HF1 : Hid (Flds w1 (.slice (some ⟨p, 0, none⟩) 3 3) l3) := Lib.hid (lit_flds HB1.out)
  have HU1 := Lib.hid (lit_cut HB1.out)
  have HBD := Lib.hid spk_bd
  refine (get_any _ l3 hostB w1 HF1 HBD (by decide)).mono ?_
  rintro e w2 ⟨rfl, H2⟩
  rw [spk_get, spk_got]
  have HF2 := Lib.hid (HF1.out.chg H2.out)
  go_wp2_with fail
  refine (via_any _ l3 1 headraceB w2 HF2 (Lib.hid (nil0_some _ _ _)) (by decide) (by decide)).mono ?_
  rintro e w3 ⟨r, rfl, HR, H3⟩
  rw [spk_viaE]
  rw [spk_via] at HR
  have HF3 := Lib.hid (HF2.out.chg H3.out)
  have HU3 := Lib.hid ((HU1.out.chg H2.out).chg H3.out)
  have HC3 := Lib.hid ((HC1.out.trans H2.out (by simp)).trans H3.out (by simp))
  obtain ⟨g, cap, rfl, hcap, hcell⟩ := HR.out.at 3 _ rfl
  have hl4 : (l3 ++ [(viaN, (⟨#[49, 46, 49, 32, 104, 101, 97, 100, 114, 97, 99, 101]⟩ : ByteArray))]).length = 4 := rfl
  rw [hl4] at hcap HR ⊢
  dsimp only at hcell
  clear HF1 HU1 H2 HF2 H3 HB1 HC1 hl4
  go_wp2_with fail
  go_region_held3 (fun w' => w'.cell? ⟨g, 7, none⟩ = some (.string ⟨#[49, 46, 49, 32, 104, 101, 97, 100, 114, 97, 99, 101]⟩))
    (first | go_keep | assumption)
    (first
      | (go_at_call 17; (with_reducible refine (has_any _ l3 ⟨#[99, 111, 110, 110, 101, 99, 116, 105, 111, 110]⟩ ⟨#[67, 76, 79, 83, 69]⟩ w3.drew (Lib.hid (HF3.out.chg (Chg.refl [] w3).drew)) HBD (by decide) (by decide)).mono ?_); rintro e w4 ⟨rfl, H4⟩; rw [spk_has2]; have HC34 := Lib.hid ((Chg.refl [] w3).drew.trans H4.out (by simp)); have q4 := HC34.out.cell hcell (by simp))
      | (go_at_call 20; (with_reducible refine (strip_any _ l3 w4 (Lib.hid (HF3.out.chg HC34.out)) HBD).mono ?_); rintro e w5 ⟨r5, rfl, HR5, H5⟩; have HC35 := Lib.hid (HC34.out.trans H5.out (by simp)); rw [spk_strip] at HR5; have q5 := HC35.out.cell hcell (by simp))
      | (go_at_call 21; (with_reducible refine (fields_eq _ _ (l3.drop 2) w5 HR5 (Lib.hid (HU3.out.chg HC35.out)) (by decide)).mono ?_); rintro e w6 ⟨rfl, H6⟩; have HC36 := Lib.hid (HC35.out.trans H6.out (by simp)); have q6 := HC36.out.cell hcell (by simp))
      | (go_at_call 10; (with_reducible refine (check_any _ l3 w6 (Lib.hid (HF3.out.chg HC36.out)) HBD).mono ?_); rintro e w7 ⟨rfl, H7⟩; rw [spk_check]; have HC37 := Lib.hid (HC36.out.trans H7.out (by simp)); have q7 := HC37.out.cell hcell (by simp)))
  go_wp2
  go_ret
  exact ⟨rfl, HC3.out.trans HC37.out (by simp)⟩
end Go.Proofs.YtiimofejcakgoaaDoor
