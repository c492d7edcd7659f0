/- The walk of FieldsStrip. -/
import Derived.Test.YtiimofejcakgoaaDoorFG
namespace Go.Proofs.YtiimofejcakgoaaDoor
open Go.RowKit Go.ChangeShapes Go.WideShapes Go.Maps Go.WideMaps
set_option linter.unusedVariables false

def teB : ByteArray := ⟨#[116, 114, 97, 110, 115, 102, 101, 114, 45, 101, 110, 99, 111, 100, 105, 110, 103]⟩
def connU : ByteArray := ⟨#[67, 111, 110, 110, 101, 99, 116, 105, 111, 110]⟩
theorem strip_mem (fs : List Fd) (f : Fd) (h : f ∈ stripB fs) : low f.1 ∉ itemsB fs conn ∧ low f.1 ∉ six := by
  unfold stripB at h
  have h2 := (List.mem_filter.1 h).2
  unfold keepM at h2
  have h3 : memB (low f.1) (itemsB fs conn ++ six) = false := by
    cases hm : memB (low f.1) (itemsB fs conn ++ six)
    · rfl
    · rw [hm] at h2
      cases h2
  have h4 : low f.1 ∉ itemsB fs conn ++ six := fun hm => by
    rw [(memB_iff _ _).2 hm] at h3
    cases h3
  exact ⟨fun hm => h4 (List.mem_append_left _ hm), fun hm => h4 (List.mem_append_right _ hm)⟩
theorem strip_conn (fs : List Fd) (f : Fd) (h : f ∈ stripB fs) : sameB f.1 conn = false := by
  rw [same_low]
  refine decide_eq_false (fun e => (strip_mem fs f h).2 ?_)
  rw [← e, show low conn = conn from rfl]
  exact List.mem_cons_self
theorem strip_te (fs : List Fd) (f : Fd) (h : f ∈ stripB fs) : sameB f.1 teB = false := by
  rw [same_low]
  refine decide_eq_false (fun e => (strip_mem fs f h).2 ?_)
  rw [← e, show low teB = teB from rfl]
  simp [six, teB]
theorem items_same (fs : List Fd) (a b : ByteArray) (h : low a = low b) : itemsB fs a = itemsB fs b := by
  unfold itemsB allB
  congr 2
  refine List.filter_congr (fun f _ => ?_)
  rw [same_low, same_low, h]
theorem strip_has (fs : List Fd) (f : Fd) (h : f ∈ stripB fs) : hasB fs connU f.1 = false := by
  unfold hasB
  rw [items_same fs connU conn rfl]
  cases hm : memB (low f.1) (itemsB fs conn)
  · rfl
  · exact absurd ((memB_iff _ _).1 hm) (strip_mem fs f h).1
theorem strip_idem (fs : List Fd) : stripB (stripB fs) = stripB fs := by
  have h1 : itemsB (stripB fs) conn = [] := by
    unfold itemsB allB
    have : (stripB fs).filter (fun f => sameB f.1 conn) = [] := by
      rw [List.filter_eq_nil_iff]
      intro f hf
      rw [strip_conn fs f hf]
      simp
    rw [this]
    rfl
  have h2 : stripB (stripB fs) = (stripB fs).filter (keepM (itemsB (stripB fs) conn ++ six)) := rfl
  rw [h2, h1, List.filter_eq_self]
  intro f hf
  unfold keepM
  cases hm : memB (low f.1) ([] ++ six)
  · rfl
  · exact absurd ((memB_iff _ _).1 hm) (strip_mem fs f hf).2
set_option maxHeartbeats 16000000 in
set_option maxRecDepth 100000 in
theorem strips_any (v : Value) (fs : List Fd) (w : World) (hf : Hid (Flds w v fs)) (hb : Hid (BdF fs)) :
    Calls Tryd.prog 4 #[v] w fun e w' => e = .returned (.bool true) ∧ Hid (Chg [] w w') := by
  go_enter Tryd.func4, Tryd.ntmps4
  go_wp2_with fail
  refine (strip_any v fs w hf hb).mono ?_
  rintro e w1 ⟨r1, rfl, HR1, C1⟩
  have HF1 := Lib.hid (hf.out.chg C1.out)
  have HBS := Lib.hid (show BdF (stripB fs) from hb.out.filter _)
  have hsl : (stripB fs).length ≤ 2000000 := HBS.out.1
  have HM1 := Lib.hid (strip_conn fs)
  have HM2 := Lib.hid (strip_te fs)
  have HM3 := Lib.hid (strip_has fs)
  have HID := Lib.hid (strip_idem fs)
  go_wp2_with fail
  refine (rstrip_any v fs w1 HF1 hb).mono ?_
  rintro e w2 ⟨r2, rfl, HR2, H2⟩
  have C2 := Lib.hid (C1.out.trans H2.out (by simp))
  go_wp2_with fail
  refine (fields_eq r1 r2 (stripB fs) w2 (Lib.hid (HR1.out.chg H2.out)) HR2 (by omega)).mono ?_
  rintro e w3 ⟨rfl, H3⟩
  have C3 := Lib.hid (C2.out.trans H3.out (by simp))
  have HR3 := Lib.hid ((HR1.out.chg H2.out).chg H3.out)
  clear HF1 C1 C2 HR2 H2 H3
  go_wp2_with fail
  refine (strip_any r1 (stripB fs) w3 HR3 HBS).mono ?_
  rintro e w4 ⟨r4, rfl, HR4, H4⟩
  rw [HID.out] at HR4
  have C4 := Lib.hid (C3.out.trans H4.out (by simp))
  have HR5 := Lib.hid (HR3.out.chg H4.out)
  go_wp2_with fail
  refine (fields_eq r4 r1 (stripB fs) w4 HR4 HR5 (by omega)).mono ?_
  rintro e w5 ⟨rfl, H5⟩
  have C5 := Lib.hid (C4.out.trans H5.out (by simp))
  have HR6 := Lib.hid (HR5.out.chg H5.out)
  clear C3 C4 HR1 HR3 HR4 HR5 H4 H5 HID
  generalize stripB fs = ss at HBS hsl HM1 HM2 HM3 HR6
  obtain ⟨a, cap, rfl, hcap, hr⟩ := HR6.out
  have HR := Lib.hid hr
  clear hr
  go_wp2_with fail
  go_loopw [22] (fun i wr => ∃ k : Nat, i = .int .i64 k ∧ k ≤ ss.length ∧ Hid (Chg [] w5 wr)) (fun i _ => ss.length - (intOf i).toNat)
  case atStart => exact ⟨0, rfl, by omega, Chg.refl _ _⟩
  case round =>
    obtain ⟨k, rfl, hk, HC⟩ := hrel
    by_cases hlt : k < ss.length
    · obtain ⟨b, o, rfl, hbs, hx⟩ := HR.out (by omega)
      obtain ⟨f, hfk⟩ : ∃ f, ss[k]? = some f := ⟨_, List.getElem?_eq_getElem hlt⟩
      have c1 := HC.out.cell (hx k f hfk).1 (by simp)
      have c2 := HC.out.cell (hx k f hfk).2 (by simp)
      obtain ⟨hs1, hs2⟩ := HBS.out.2.2 f (List.mem_of_getElem? hfk)
      have g1 := Lib.hid (HM1.out f (List.mem_of_getElem? hfk))
      have g2 := Lib.hid (HM2.out f (List.mem_of_getElem? hfk))
      have g3 := Lib.hid (HM3.out f (List.mem_of_getElem? hfk))
      clear hx hfk
      obtain ⟨n, x⟩ := f
      dsimp only at c1 c2 hs1 hs2 g1 g2 g3
      have HB := Lib.hid (Blk.new wr [.string n, .string x] 36)
      have HC1 := Lib.hid (HC.out.alloc (.cells #[.string n, .string x] 36))
      go_wp2_with fail
      refine (rsame_any n conn _ hs1 (by decide) false g1.out).mono ?_
      rintro e w6 ⟨rfl, H6⟩
      have HB6 := Lib.hid (HB.out.chg H6.out (by simp))
      have C6 := Lib.hid (HC1.out.trans H6.out (by simp))
      have d0 := HB6.out.cell 0 _ rfl
      go_wp2_with fail
      refine (rsame_any n teB _ hs1 (by decide) false g2.out).mono ?_
      rintro e w7 ⟨rfl, H7⟩
      have HB7 := Lib.hid (HB6.out.chg H7.out (by simp))
      have C7 := Lib.hid (C6.out.trans H7.out (by simp))
      have d1 := HB7.out.cell 0 _ rfl
      go_wp2_with fail
      refine (has_any v fs connU n _ (Lib.hid (hf.out.chg (C5.out.trans C7.out (by simp)))) hb (by decide) hs1).mono ?_
      rintro e w8 ⟨rfl, H8⟩
      rw [g3.out]
      have C8 := Lib.hid (C7.out.trans H8.out (by simp))
      go_wp2
      go_roundw
      case rel => exact ⟨k + 1, by go_num, by omega, C8⟩
      case measure => simp [intOf]; omega
    · obtain rfl : k = ss.length := by omega
      go_wp2_with fail
      refine (speaks_any wr).mono ?_
      rintro e wd ⟨rfl, Hd⟩
      go_wp2_with fail
      go_ret
      exact ⟨rfl, (C5.out.trans HC.out (by simp)).trans Hd.out (by simp)⟩
end Go.Proofs.YtiimofejcakgoaaDoor
