/- Layer 7 (fields): Via, both sides; the place of a field. -/
import Derived.Test.YtiimofejcakgoaaDoorFA
namespace Go.Proofs.YtiimofejcakgoaaDoor
open Go.RowKit Go.ChangeShapes Go.WideShapes Go.Maps Go.WideMaps
set_option linter.unusedVariables false

def viaE (minor : Int) (by' : ByteArray) : Int := if minor ≠ 0 ∧ minor ≠ 1 then 1 else if tokB by' = false then 70 else 0
def viaV (minor : Nat) (by' : ByteArray) : ByteArray := ⟨#[49, 46]⟩ ++ ⟨(Lib.decDigits minor).toArray⟩ ++ ⟨#[32]⟩ ++ by'
def viaN : ByteArray := ⟨#[86, 105, 97]⟩
def viaB (fs : List Fd) (minor : Int) (by' : ByteArray) : List Fd := if viaE minor by' = 0 then fs ++ [(viaN, viaV minor.toNat by')] else []
theorem dec_len (m : Nat) (h : m < 2) : (Lib.decDigits m).length = 1 := by
  rw [Lib.decDigits_one (by omega)]
  rfl
/-- A field that is appended behind a row of fields. -/
theorem run_push (ty B : Nat) (w : World) (v : Value) (fs : List Fd) (n x : ByteArray) (ad c : Nat) (ho : OwnF B w v fs) (hc : Blk w ad [.string n, .string x] 36) (hl : fs.length ≤ 4000000) (hB : B ≤ w.heap.size) :
    ∃ v' w', (Builtin.append_ #[22, 22] ty #[v, .slice (some ⟨ad, 0, none⟩) 1 1]).run Tryd.prog w = .ok v' w' ∧ OwnF B w' v' (fs ++ [(n, x)]) ∧ w.grownBy w' v.ownBlock := by
  obtain ⟨v', w', h1, h2, h3⟩ := run_appF ty B w v (.slice (some ⟨ad, 0, none⟩) 1 1) fs.length (fcells fs) [(n, x)] ho ⟨_, 1, rfl, Nat.le_refl _, fun _ => ⟨ad, 0, rfl, hc.lt, fun j f hj => by
    cases j with
    | zero =>
      simp at hj
      subst hj
      exact ⟨hc.cell 0 _ rfl, hc.cell 1 _ rfl⟩
    | succ j => simp at hj⟩⟩ (fun n c e => by injection e with e; cases e) (by simp; omega) hB
  exact ⟨v', w', h1, OwnF.push (by simpa [fcells] using h2), h3⟩
set_option maxHeartbeats 8000000 in
set_option maxRecDepth 100000 in
theorem via_any (v : Value) (fs : List Fd) (minor : Int) (by' : ByteArray) (w : World) (hf : Hid (Flds w v fs)) (h0 : Hid (Nil0 v)) (hl : fs.length ≤ 2000000) (hn : by'.size ≤ 1048576) :
    Calls Tryd.prog 26 #[v, .int .i64 minor, .string by'] w fun e w' => ∃ r, e = .returned (.tuple #[r, .int .i64 (viaE minor by')]) ∧ Hid (OwnF w.heap.size w' r (viaB fs minor by')) ∧ Hid (Chg [] w w') := by
  by_cases hm : minor ≠ 0 ∧ minor ≠ 1
  · have HE := Lib.hid (show viaE minor by' = 1 by unfold viaE; rw [if_pos hm])
    have HB := Lib.hid (show viaB fs minor by' = [] by unfold viaB; rw [HE.out, if_neg (by decide)])
    have k0 : (minor != 0) = true := bne_iff_ne.2 hm.1
    have k1 : (minor != 1) = true := bne_iff_ne.2 hm.2
    clear hm
    go_enter Tryd.func26, Tryd.ntmps26
    go_wp2
    go_ret2
    exact ⟨_, by rw [HE.out]; rfl, Lib.hid (by rw [HB.out]; exact OwnF.nil _ _), by first | exact Chg.refl _ _ | trivial⟩
  · by_cases h : minor = 0
    · subst h
      have HE : Hid (viaE 0 by' = if tokB by' = false then 70 else 0) := Lib.hid (by unfold viaE; rw [if_neg (by decide)])
      have HIT : ∀ w, Calls Tryd.prog 45 #[.int .i64 0] w fun e w' => e = .returned (.string ⟨(Lib.decDigits 0).toArray⟩) ∧ w' = w := fun w => Tryd.strconv_Itoa_small 0 (by omega) w
      have hdl := dec_len 0 (by omega)
      have HV : Hid (viaV 0 by' = ⟨#[49, 46]⟩ ++ ⟨(Lib.decDigits 0).toArray⟩ ++ ⟨#[32]⟩ ++ by') := Lib.hid rfl
      clear hm
      go_enter Tryd.func26, Tryd.ntmps26
      go_wp2_with fail
      refine (token_any by' _ hn).mono ?_
      rintro e w1 ⟨rfl, H1⟩
      cases ht : tokB by'
      · rw [ht] at HE
        have HB := Lib.hid (show viaB fs 0 by' = [] by unfold viaB; rw [HE.out]; rfl)
        go_wp2_with fail
        go_ret2
        exact ⟨_, by rw [HE.out]; rfl, Lib.hid (by rw [HB.out]; exact OwnF.nil _ _), H1⟩
      · rw [ht] at HE
        have HB := Lib.hid (show viaB fs 0 by' = fs ++ [(viaN, viaV 0 by')] by unfold viaB; rw [HE.out]; rfl)
        go_wp2_with fail
        refine (clone_any v fs _ (Lib.hid (hf.out.chg H1.out)) h0 (by omega)).mono ?_
        rintro e w2 ⟨r, rfl, HR, H2⟩
        go_wp2_with fail
        refine (HIT w2).mono ?_
        rintro e w3 ⟨rfl, rfl⟩
        have HC2 := Lib.hid (H1.out.trans H2.out (by simp))
        have hds : (⟨(Lib.decDigits 0).toArray⟩ : ByteArray).size = 1 := by rw [size_list]; exact hdl
        have hlx : w.heap.size ≤ w1.heap.size := H1.out.size
        clear HIT hdl
        generalize (⟨(Lib.decDigits 0).toArray⟩ : ByteArray) = dd at HV hds ⊢
        obtain ⟨v5, w5, hr, ho, hg⟩ := run_push 22 w.heap.size (w3.alloc (.cells #[.string viaN, .string (viaV 0 by')] 36)) r fs viaN (viaV 0 by') w3.heap.size 1 (ownsRow_chg (HR.out.lower hlx) ((Chg.refl [] w3).alloc _)) (Blk.new _ _ _) (by omega) (by have := HC2.out.size; simp; omega)
        have HO5 := Lib.hid ho
        have HC5 := Lib.hid (Chg.grownOwn (HC2.out.alloc (.cells #[.string viaN, .string (viaV 0 by')] 36)) (ownsRow_chg (HR.out.lower hlx) ((Chg.refl [] w3).alloc (.cells #[.string viaN, .string (viaV 0 by')] 36))) (Nat.le_refl _) hg)
        clear ho hg
        rw [HV.out] at hr
        unfold viaN at hr
        go_wp2_with (at_builtin; refine wpList_appF rfl _ _ rfl _ _ rfl rfl v5 w5 hr ?_)
        go_ret2
        exact ⟨_, by rw [HE.out]; rfl, Lib.hid (by rw [HB.out]; exact HO5.out), HC5⟩
    · obtain rfl : minor = 1 := by
        rcases Decidable.em (minor = 1) with h1 | h1
        · exact h1
        · exact absurd ⟨h, h1⟩ hm
      clear h
      have HE : Hid (viaE 1 by' = if tokB by' = false then 70 else 0) := Lib.hid (by unfold viaE; rw [if_neg (by decide)])
      have HIT : ∀ w, Calls Tryd.prog 45 #[.int .i64 1] w fun e w' => e = .returned (.string ⟨(Lib.decDigits 1).toArray⟩) ∧ w' = w := fun w => Tryd.strconv_Itoa_small 1 (by omega) w
      have hdl := dec_len 1 (by omega)
      have HV : Hid (viaV 1 by' = ⟨#[49, 46]⟩ ++ ⟨(Lib.decDigits 1).toArray⟩ ++ ⟨#[32]⟩ ++ by') := Lib.hid rfl
      clear hm
      go_enter Tryd.func26, Tryd.ntmps26
      go_wp2_with fail
      refine (token_any by' _ hn).mono ?_
      rintro e w1 ⟨rfl, H1⟩
      cases ht : tokB by'
      · rw [ht] at HE
        have HB := Lib.hid (show viaB fs 1 by' = [] by unfold viaB; rw [HE.out]; rfl)
        go_wp2_with fail
        go_ret2
        exact ⟨_, by rw [HE.out]; rfl, Lib.hid (by rw [HB.out]; exact OwnF.nil _ _), H1⟩
      · rw [ht] at HE
        have HB := Lib.hid (show viaB fs 1 by' = fs ++ [(viaN, viaV 1 by')] by unfold viaB; rw [HE.out]; rfl)
        go_wp2_with fail
        refine (clone_any v fs _ (Lib.hid (hf.out.chg H1.out)) h0 (by omega)).mono ?_
        rintro e w2 ⟨r, rfl, HR, H2⟩
        go_wp2_with fail
        refine (HIT w2).mono ?_
        rintro e w3 ⟨rfl, rfl⟩
        have HC2 := Lib.hid (H1.out.trans H2.out (by simp))
        have hds : (⟨(Lib.decDigits 1).toArray⟩ : ByteArray).size = 1 := by rw [size_list]; exact hdl
        have hlx : w.heap.size ≤ w1.heap.size := H1.out.size
        clear HIT hdl
        generalize (⟨(Lib.decDigits 1).toArray⟩ : ByteArray) = dd at HV hds ⊢
        obtain ⟨v5, w5, hr, ho, hg⟩ := run_push 22 w.heap.size (w3.alloc (.cells #[.string viaN, .string (viaV 1 by')] 36)) r fs viaN (viaV 1 by') w3.heap.size 1 (ownsRow_chg (HR.out.lower hlx) ((Chg.refl [] w3).alloc _)) (Blk.new _ _ _) (by omega) (by have := HC2.out.size; simp; omega)
        have HO5 := Lib.hid ho
        have HC5 := Lib.hid (Chg.grownOwn (HC2.out.alloc (.cells #[.string viaN, .string (viaV 1 by')] 36)) (ownsRow_chg (HR.out.lower hlx) ((Chg.refl [] w3).alloc (.cells #[.string viaN, .string (viaV 1 by')] 36))) (Nat.le_refl _) hg)
        clear ho hg
        rw [HV.out] at hr
        unfold viaN at hr
        go_wp2_with (at_builtin; refine wpList_appF rfl _ _ rfl _ _ rfl rfl v5 w5 hr ?_)
        go_ret2
        exact ⟨_, by rw [HE.out]; rfl, Lib.hid (by rw [HB.out]; exact HO5.out), HC5⟩
set_option maxHeartbeats 8000000 in
set_option maxRecDepth 100000 in
theorem rvia_any (v : Value) (fs : List Fd) (minor : Int) (by' : ByteArray) (w : World) (hf : Hid (Flds w v fs)) (h0 : Hid (Nil0 v)) (hl : fs.length ≤ 2000000) (hn : by'.size ≤ 1048576) :
    Calls Tryd.prog 27 #[v, .int .i64 minor, .string by'] w fun e w' => ∃ r, e = .returned (.tuple #[r, .int .i64 (viaE minor by')]) ∧ Hid (OwnF w.heap.size w' r (viaB fs minor by')) ∧ Hid (Chg [] w w') := by
  by_cases hm : minor ≠ 0 ∧ minor ≠ 1
  · have HE := Lib.hid (show viaE minor by' = 1 by unfold viaE; rw [if_pos hm])
    have HB := Lib.hid (show viaB fs minor by' = [] by unfold viaB; rw [HE.out, if_neg (by decide)])
    by_cases k0 : minor < 0
    · clear hm
      go_enter Tryd.func27, Tryd.ntmps27
      go_wp2
      go_ret2
      exact ⟨_, by rw [HE.out]; rfl, Lib.hid (by rw [HB.out]; exact OwnF.nil _ _), by first | exact Chg.refl _ _ | trivial⟩
    · have k1 : minor > 1 := by omega
      clear hm
      go_enter Tryd.func27, Tryd.ntmps27
      go_wp2
      go_ret2
      exact ⟨_, by rw [HE.out]; rfl, Lib.hid (by rw [HB.out]; exact OwnF.nil _ _), by first | exact Chg.refl _ _ | trivial⟩
  · by_cases h : minor = 0
    · subst h
      have HE : Hid (viaE 0 by' = if tokB by' = false then 70 else 0) := Lib.hid (by unfold viaE; rw [if_neg (by decide)])
      have HIT : ∀ w, Calls Tryd.prog 45 #[.int .i64 0] w fun e w' => e = .returned (.string ⟨(Lib.decDigits 0).toArray⟩) ∧ w' = w := fun w => Tryd.strconv_Itoa_small 0 (by omega) w
      have hdl := dec_len 0 (by omega)
      have HV : Hid (viaV 0 by' = ⟨#[49, 46]⟩ ++ ⟨(Lib.decDigits 0).toArray⟩ ++ ⟨#[32]⟩ ++ by') := Lib.hid rfl
      clear hm
      go_enter Tryd.func27, Tryd.ntmps27
      go_wp2_with fail
      refine (rtoken_any by' _ hn).mono ?_
      rintro e w1 ⟨rfl, H1⟩
      cases ht : tokB by'
      · rw [ht] at HE
        have HB := Lib.hid (show viaB fs 0 by' = [] by unfold viaB; rw [HE.out]; rfl)
        go_wp2_with fail
        go_ret2
        exact ⟨_, by rw [HE.out]; rfl, Lib.hid (by rw [HB.out]; exact OwnF.nil _ _), H1⟩
      · rw [ht] at HE
        have HB := Lib.hid (show viaB fs 0 by' = fs ++ [(viaN, viaV 0 by')] by unfold viaB; rw [HE.out]; rfl)
        have HF1 := Lib.hid (hf.out.chg H1.out)
        obtain ⟨r, w2, hr2, ho2, hg2⟩ := run_appF 22 w.heap.size w1 (.slice none 0 0) v 0 [] fs (World.ownsRow_nil _ _ _ _) HF1.out h0.out (by omega) H1.out.size
        have HR : Hid (OwnF w.heap.size w2 r fs) := Lib.hid (by unfold OwnF; simpa using ho2)
        have HC2 := Lib.hid (Chg.grownOwn H1.out (World.ownsRow_nil w1 w.heap.size 36 2) (Nat.le_refl _) hg2)
        clear ho2 hg2
        go_wp2_with (at_builtin; refine wpList_appF rfl _ _ rfl _ _ rfl rfl r w2 hr2 ?_)
        go_wp2_with fail
        refine (HIT w2).mono ?_
        rintro e w3 ⟨rfl, rfl⟩
        have hds : (⟨(Lib.decDigits 0).toArray⟩ : ByteArray).size = 1 := by rw [size_list]; exact hdl
        clear HIT hdl hr2
        generalize (⟨(Lib.decDigits 0).toArray⟩ : ByteArray) = dd at HV hds ⊢
        obtain ⟨v5, w5, hr, ho, hg⟩ := run_push 22 w.heap.size (w3.alloc (.cells #[.string viaN, .string (viaV 0 by')] 36)) r fs viaN (viaV 0 by') w3.heap.size 1 (ownsRow_chg HR.out ((Chg.refl [] w3).alloc _)) (Blk.new _ _ _) (by omega) (by have := HC2.out.size; simp; omega)
        have HO5 := Lib.hid ho
        have HC5 := Lib.hid (Chg.grownOwn (HC2.out.alloc (.cells #[.string viaN, .string (viaV 0 by')] 36)) (ownsRow_chg HR.out ((Chg.refl [] w3).alloc (.cells #[.string viaN, .string (viaV 0 by')] 36))) (Nat.le_refl _) hg)
        clear ho hg
        rw [HV.out] at hr
        unfold viaN at hr
        go_wp2_with (at_builtin; refine wpList_appF rfl _ _ rfl _ _ rfl rfl v5 w5 hr ?_)
        go_ret2
        exact ⟨_, by rw [HE.out]; rfl, Lib.hid (by rw [HB.out]; exact HO5.out), HC5⟩
    · obtain rfl : minor = 1 := by
        rcases Decidable.em (minor = 1) with h1 | h1
        · exact h1
        · exact absurd ⟨h, h1⟩ hm
      clear h
      have HE : Hid (viaE 1 by' = if tokB by' = false then 70 else 0) := Lib.hid (by unfold viaE; rw [if_neg (by decide)])
      have HIT : ∀ w, Calls Tryd.prog 45 #[.int .i64 1] w fun e w' => e = .returned (.string ⟨(Lib.decDigits 1).toArray⟩) ∧ w' = w := fun w => Tryd.strconv_Itoa_small 1 (by omega) w
      have hdl := dec_len 1 (by omega)
      have HV : Hid (viaV 1 by' = ⟨#[49, 46]⟩ ++ ⟨(Lib.decDigits 1).toArray⟩ ++ ⟨#[32]⟩ ++ by') := Lib.hid rfl
      clear hm
      go_enter Tryd.func27, Tryd.ntmps27
      go_wp2_with fail
      refine (rtoken_any by' _ hn).mono ?_
      rintro e w1 ⟨rfl, H1⟩
      cases ht : tokB by'
      · rw [ht] at HE
        have HB := Lib.hid (show viaB fs 1 by' = [] by unfold viaB; rw [HE.out]; rfl)
        go_wp2_with fail
        go_ret2
        exact ⟨_, by rw [HE.out]; rfl, Lib.hid (by rw [HB.out]; exact OwnF.nil _ _), H1⟩
      · rw [ht] at HE
        have HB := Lib.hid (show viaB fs 1 by' = fs ++ [(viaN, viaV 1 by')] by unfold viaB; rw [HE.out]; rfl)
        have HF1 := Lib.hid (hf.out.chg H1.out)
        obtain ⟨r, w2, hr2, ho2, hg2⟩ := run_appF 22 w.heap.size w1 (.slice none 0 0) v 0 [] fs (World.ownsRow_nil _ _ _ _) HF1.out h0.out (by omega) H1.out.size
        have HR : Hid (OwnF w.heap.size w2 r fs) := Lib.hid (by unfold OwnF; simpa using ho2)
        have HC2 := Lib.hid (Chg.grownOwn H1.out (World.ownsRow_nil w1 w.heap.size 36 2) (Nat.le_refl _) hg2)
        clear ho2 hg2
        go_wp2_with (at_builtin; refine wpList_appF rfl _ _ rfl _ _ rfl rfl r w2 hr2 ?_)
        go_wp2_with fail
        refine (HIT w2).mono ?_
        rintro e w3 ⟨rfl, rfl⟩
        have hds : (⟨(Lib.decDigits 1).toArray⟩ : ByteArray).size = 1 := by rw [size_list]; exact hdl
        clear HIT hdl hr2
        generalize (⟨(Lib.decDigits 1).toArray⟩ : ByteArray) = dd at HV hds ⊢
        obtain ⟨v5, w5, hr, ho, hg⟩ := run_push 22 w.heap.size (w3.alloc (.cells #[.string viaN, .string (viaV 1 by')] 36)) r fs viaN (viaV 1 by') w3.heap.size 1 (ownsRow_chg HR.out ((Chg.refl [] w3).alloc _)) (Blk.new _ _ _) (by omega) (by have := HC2.out.size; simp; omega)
        have HO5 := Lib.hid ho
        have HC5 := Lib.hid (Chg.grownOwn (HC2.out.alloc (.cells #[.string viaN, .string (viaV 1 by')] 36)) (ownsRow_chg HR.out ((Chg.refl [] w3).alloc (.cells #[.string viaN, .string (viaV 1 by')] 36))) (Nat.le_refl _) hg)
        clear ho hg
        rw [HV.out] at hr
        unfold viaN at hr
        go_wp2_with (at_builtin; refine wpList_appF rfl _ _ rfl _ _ rfl rfl v5 w5 hr ?_)
        go_ret2
        exact ⟨_, by rw [HE.out]; rfl, Lib.hid (by rw [HB.out]; exact HO5.out), HC5⟩
end Go.Proofs.YtiimofejcakgoaaDoor
