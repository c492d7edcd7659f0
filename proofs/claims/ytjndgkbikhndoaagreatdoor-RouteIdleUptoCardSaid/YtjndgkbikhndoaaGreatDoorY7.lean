/- Layer 14 (route), the program: a request's host and path. -/
import Derived.Test.YtjndgkbikhndoaaGreatDoorY6
namespace Go.Proofs.YtjndgkbikhndoaaGreatDoor
open Go.RowKit Go.ChangeShapes Go.WideShapes
set_option linter.unusedVariables false

def emB : ByteArray := ⟨#[]⟩
def slB : ByteArray := ⟨#[47]⟩
def hostN : ByteArray := ⟨#[104, 111, 115, 116]⟩
/-- The host out of the fields, and what is wrong with it. -/
def hostOf (h : Hd) (th : ByteArray) : ByteArray × Int :=
  if 1 < (allB h.fields hostN).length then (emB, 61) else
  match allB h.fields hostN with
  | [] => if h.minor = 0 then (th, 0) else (emB, 61)
  | x :: _ => ((hostF x).1, (hostF x).2.2)
def placeG (h : Hd) (f : Int) (th tp : ByteArray) (er : Int) : ByteArray × ByteArray × Int :=
  if er = 0 then
    if f = 3 then (emB, emB, 60) else
    let hr := if f = 2 then (th, 0) else hostOf h th
    if hr.2 = 0 then (hr.1, if f = 4 then slB else (cleanF tp).1, 0) else (emB, emB, hr.2)
  else (emB, emB, er)
def PlaceIs (h : Hd) (r : ByteArray × ByteArray × Int) : Prop :=
  (h.request = false ∧ r = (emB, emB, 1)) ∨ (h.request = true ∧ ∃ v f th p tp q a er, IxOK (h.target.extract 7 h.target.size).data.toList v ∧ parseF h.method h.target v = (tgt f th p tp q a, er) ∧ r = placeG h f th tp er)
theorem place_two {h : Hd} {f : Int} {th tp : ByteArray} (k2 : f = 2) (pp : ByteArray) (hp : (if f = 4 then slB else (cleanF tp).1) = pp) : placeG h f th tp 0 = (th, pp, 0) := by
  unfold placeG
  rw [if_pos rfl, if_neg (by omega), if_pos k2, if_pos rfl, hp]
theorem place_of {h : Hd} {f : Int} {th tp ho : ByteArray} (k3 : ¬ f = 3) (k2 : ¬ f = 2) (hh : hostOf h th = (ho, 0)) (pp : ByteArray) (hp : (if f = 4 then slB else (cleanF tp).1) = pp) : placeG h f th tp 0 = (ho, pp, 0) := by
  unfold placeG
  rw [if_pos rfl, if_neg k3, if_neg k2, hh, if_pos rfl, hp]
theorem place_bad {h : Hd} {f er : Int} {th tp ho : ByteArray} (k3 : ¬ f = 3) (k2 : ¬ f = 2) (hh : hostOf h th = (ho, er)) (he : ¬ er = 0) : placeG h f th tp 0 = (emB, emB, er) := by
  unfold placeG
  rw [if_pos rfl, if_neg k3, if_neg k2, hh, if_neg he]
set_option maxHeartbeats 8000000 in
set_option maxRecDepth 100000 in
theorem place_any (h : Hd) (fv : Value) (w : World) (hE : Hid (Env w)) (hfs : Hid (Flds w fv h.fields)) (hhz : Hid (HdSz h)) :
    Calls Tryz.prog 24 #[.agg (hdRow h fv).toArray] w fun e w' => (∃ r, PlaceIs h r ∧ e = .returned (.tuple #[.string r.1, .string r.2.1, .int .i64 r.2.2])) ∧ Hid (Chg [] w w') := by
  obtain ⟨rq, me, tg, mi, st, re, fs⟩ := h
  dsimp only at hfs
  have HFB := Lib.hid hhz.out.fs
  dsimp only at HFB
  have HG0 := Lib.hid (Blk.new w (hdRow ⟨rq, me, tg, mi, st, re, fs⟩ fv) 27)
  have HC0 := Lib.hid ((Chg.refl [] w).alloc (.cells (hdRow ⟨rq, me, tg, mi, st, re, fs⟩ fv).toArray 27))
  change Calls Tryz.prog 24 #[.agg #[.bool rq, .string me, .string tg, .int .i64 mi, .int .i64 st, .string re, fv]] w _
  go_enter Tryz.func24, Tryz.ntmps24
  go_upto_region 1 with fail
  change Hid (Blk (w.alloc (.cells #[.bool rq, .string me, .string tg, .int .i64 mi, .int .i64 st, .string re, fv] 27)) _ _ _) at HG0
  change Hid (Chg [] w (w.alloc (.cells #[.bool rq, .string me, .string tg, .int .i64 mi, .int .i64 st, .string re, fv] 27))) at HC0
  generalize w.alloc (.cells #[.bool rq, .string me, .string tg, .int .i64 mi, .int .i64 st, .string re, fv] 27) = W1 at HG0 HC0 ⊢
  generalize w.heap.size = g at HG0 ⊢
  have HC := HC0
  have d0 := HG0.out.cell 0 _ rfl
  have d1 := HG0.out.cell 1 _ rfl
  have d2 := HG0.out.cell 2 _ rfl
  cases rq
  · go_wp2_with fail
    go_ret3
    exact ⟨⟨emB, emB, 1, .inl ⟨rfl, rfl⟩, rfl⟩, HC.out⟩
  go_wp2_with fail
  refine (parse_any me tg _ (Lib.hid (hE.out.chg HC.out))).mono ?_
  rintro o W2 ⟨⟨v, hv, rfl⟩, H2⟩
  obtain ⟨f, th, p, tp, q, a, hform⟩ := parseF_form me tg v
  obtain ⟨er, he⟩ : ∃ er, (parseF me tg v).2 = er := ⟨_, rfl⟩
  have HP := Lib.hid (show ∀ r, r = placeG ⟨true, me, tg, mi, st, re, fs⟩ f th tp er → PlaceIs ⟨true, me, tg, mi, st, re, fs⟩ r from fun r hr => .inr ⟨rfl, v, f, th, p, tp, q, a, er, hv, Prod.ext hform he, hr⟩)
  rw [hform, he]
  clear hform he hv d0 d1 d2
  have HG2 := Lib.hid (HG0.out.chg H2.out (by simp))
  have HB := Lib.hid (Blk.new W2 (tgt f th p tp q a) 76)
  have HG3 := Lib.hid (HG2.out.alloc (.cells (tgt f th p tp q a).toArray 76))
  have HC2 := Lib.hid ((HC.out.trans H2.out (by simp)).alloc (.cells (tgt f th p tp q a).toArray 76))
  clear HC HC0 HG0 HG2
  unfold tgt at HB HC2 HG3 ⊢
  go_upto_region 4 with fail
  generalize W2.alloc _ = W3 at HB HC2 HG3 ⊢
  generalize W2.heap.size = b at HB ⊢
  have HC := HC2
  have HG := HG3
  clear HC2 HG3
  by_cases k1 : er = 0
  · subst k1
    have c0 := HB.out.cell 0 _ rfl
    have c1 := HB.out.cell 1 _ rfl
    have c3 := HB.out.cell 3 _ rfl
    by_cases k3 : f = 3
    · have HV := Lib.hid (show placeG ⟨true, me, tg, mi, st, re, fs⟩ f th tp 0 = (emB, emB, 60) from by unfold placeG; rw [if_pos rfl, if_pos k3])
      subst k3
      go_wp2_with fail
      go_ret3
      exact ⟨⟨_, HP.out _ HV.out.symm, rfl⟩, HC.out⟩
    · have k3b : (f == 3) = false := beq_eq_false_iff_ne.2 k3
      by_cases k2 : f = 2
      · have HV := Lib.hid (show placeG ⟨true, me, tg, mi, st, re, fs⟩ f th tp 0 = (th, (cleanF tp).1, 0) from place_two k2 _ (by rw [if_neg (by omega)]))
        subst k2
        obtain ⟨cc, cg, hcc⟩ : ∃ cc cg, cleanF tp = (cc, cg) := ⟨_, _, rfl⟩
        have HCC := Lib.hid hcc
        rw [hcc] at HV
        clear hcc k3
        go_wp2_with fail
        refine (clean_any tp _ (Lib.hid (hE.out.chg HC.out)) cc cg HCC.out).mono ?_
        rintro o W9 ⟨rfl, H9⟩
        have HC9 := Lib.hid (HC.out.trans H9.out (by simp))
        go_wp2_with fail
        go_ret3
        exact ⟨⟨_, HP.out _ HV.out.symm, rfl⟩, HC9.out⟩
      · have k2b : (f == 2) = false := beq_eq_false_iff_ne.2 k2
        have HK3 := Lib.hid k3
        have HK2 := Lib.hid k2
        clear k3
        have d6 := HG.out.cell 6 _ rfl
        go_wp2_with fail
        refine (all_any fv fs hostN _ (Lib.hid (hfs.out.chg HC.out)) HFB (by decide +kernel)).mono ?_
        rintro o W4 ⟨rl, rfl, HL, H4⟩
        have HB4 := Lib.hid (HB.out.chg H4.out (by simp))
        have HG4 := Lib.hid (HG.out.chg H4.out (by simp))
        have HC4 := Lib.hid (HC.out.trans H4.out (by simp))
        clear c0 c1 c3 d6 HB HG HC
        have HB := HB4
        have HG := HG4
        have HC := HC4
        clear HB4 HG4 HC4
        have c0 := HB.out.cell 0 _ rfl
        have c1 := HB.out.cell 1 _ rfl
        have c3 := HB.out.cell 3 _ rfl
        have d3 := HG.out.cell 3 _ rfl
        have HHO := Lib.hid (show hostOf ⟨true, me, tg, mi, st, re, fs⟩ th = (if 1 < (allB fs hostN).length then (emB, 61) else
          match allB fs hostN with
          | [] => if mi = 0 then (th, 0) else (emB, 61)
          | x :: _ => ((hostF x).1, (hostF x).2.2)) from rfl)
        have HSZ := Lib.hid (allB_size fs hostN HFB.out)
        generalize allB fs hostN = l at HL HHO HSZ
        obtain ⟨A, cp, rfl⟩ := HL.out.form
        match l, HL, HHO, HSZ with
        | [], HL, HHO, HSZ =>
          by_cases km : mi = 0
          · have HX := Lib.hid (show hostOf ⟨true, me, tg, mi, st, re, fs⟩ th = (th, 0) from by rw [HHO.out, if_neg (by simp)]; show (if mi = 0 then (th, (0 : Int)) else (emB, 61)) = _; rw [if_pos km])
            have HPO := Lib.hid (fun pp hp => place_of (tp := tp) HK3.out HK2.out HX.out pp hp)
            have kmb : (mi == 0) = true := beq_iff_eq.2 km
            have hl0 : ((([] : List ByteArray).length : Nat) : Int) = 0 := rfl
            by_cases k4 : f = 4
            · have HV := Lib.hid (show placeG ⟨true, me, tg, mi, st, re, fs⟩ f th tp 0 = (th, slB, 0) from HPO.out slB (by rw [if_pos k4]))
              subst k4
              go_wp2_with fail
              go_ret3
              exact ⟨⟨_, HP.out _ HV.out.symm, rfl⟩, HC.out⟩
            · have HV := Lib.hid (show placeG ⟨true, me, tg, mi, st, re, fs⟩ f th tp 0 = (th, (cleanF tp).1, 0) from HPO.out (cleanF tp).1 (by rw [if_neg k4]))
              have k4b : (f == 4) = false := beq_eq_false_iff_ne.2 k4
              obtain ⟨cc, cg, hcc⟩ : ∃ cc cg, cleanF tp = (cc, cg) := ⟨_, _, rfl⟩
              have HCC := Lib.hid hcc
              rw [hcc] at HV
              clear hcc
              go_wp2_with fail
              refine (clean_any tp _ (Lib.hid (hE.out.chg HC.out)) cc cg HCC.out).mono ?_
              rintro o W9 ⟨rfl, H9⟩
              have HC9 := Lib.hid (HC.out.trans H9.out (by simp))
              go_wp2_with fail
              go_ret3
              exact ⟨⟨_, HP.out _ HV.out.symm, rfl⟩, HC9.out⟩
          · have HX := Lib.hid (show hostOf ⟨true, me, tg, mi, st, re, fs⟩ th = (emB, 61) from by rw [HHO.out, if_neg (by simp)]; show (if mi = 0 then (th, (0 : Int)) else (emB, 61)) = _; rw [if_neg km])
            have HV := Lib.hid (place_bad (tp := tp) HK3.out HK2.out HX.out (by decide))
            have kmb : (mi == 0) = false := beq_eq_false_iff_ne.2 km
            go_wp2_with fail
            go_ret3
            exact ⟨⟨_, HP.out _ HV.out.symm, rfl⟩, HC.out⟩
        | [x], HL, HHO, HSZ =>
          obtain ⟨bl, cap2, he2, hcp, hbl, hcl⟩ := HL.out.read (by simp)
          obtain ⟨rfl, rfl⟩ : A = some ⟨bl, 0, none⟩ ∧ cp = cap2 := by injection he2 with e1 e2 e3; exact ⟨e1, e3⟩
          have l0 := hcl 0 x rfl
          have hxs := HSZ.out x (by simp)
          have HX := Lib.hid (show hostOf ⟨true, me, tg, mi, st, re, fs⟩ th = ((hostF x).1, (hostF x).2.2) from by rw [HHO.out, if_neg (by simp)])
          obtain ⟨ho, po, eo, hho⟩ : ∃ ho po eo, hostF x = (ho, po, eo) := ⟨_, _, _, rfl⟩
          have HHF := Lib.hid hho
          rw [hho] at HX
          clear hho he2 hcl hcp HHO
          go_wp2_with fail
          refine (Host_any x _ hxs (Lib.hid (hE.out.chg HC.out)) ho po eo HHF.out).mono ?_
          rintro o W5 ⟨rfl, H5⟩
          have HB5 := Lib.hid (HB.out.chg H5.out (by simp))
          have HC5 := Lib.hid (HC.out.trans H5.out (by simp))
          clear c0 c1 c3 d3 l0 HB HC
          have HB := HB5
          have HC := HC5
          clear HB5 HC5
          have c0 := HB.out.cell 0 _ rfl
          have c3 := HB.out.cell 3 _ rfl
          by_cases ke : eo = 0
          · subst ke
            have HPO := Lib.hid (fun pp hp => place_of (tp := tp) HK3.out HK2.out HX.out pp hp)
            by_cases k4 : f = 4
            · have HV := Lib.hid (show placeG ⟨true, me, tg, mi, st, re, fs⟩ f th tp 0 = (ho, slB, 0) from HPO.out slB (by rw [if_pos k4]))
              subst k4
              go_wp2_with fail
              go_ret3
              exact ⟨⟨_, HP.out _ HV.out.symm, rfl⟩, HC.out⟩
            · have HV := Lib.hid (show placeG ⟨true, me, tg, mi, st, re, fs⟩ f th tp 0 = (ho, (cleanF tp).1, 0) from HPO.out (cleanF tp).1 (by rw [if_neg k4]))
              have k4b : (f == 4) = false := beq_eq_false_iff_ne.2 k4
              obtain ⟨cc, cg, hcc⟩ : ∃ cc cg, cleanF tp = (cc, cg) := ⟨_, _, rfl⟩
              have HCC := Lib.hid hcc
              rw [hcc] at HV
              clear hcc
              go_wp2_with fail
              refine (clean_any tp _ (Lib.hid (hE.out.chg HC.out)) cc cg HCC.out).mono ?_
              rintro o W9 ⟨rfl, H9⟩
              have HC9 := Lib.hid (HC.out.trans H9.out (by simp))
              go_wp2_with fail
              go_ret3
              exact ⟨⟨_, HP.out _ HV.out.symm, rfl⟩, HC9.out⟩
          · have HV := Lib.hid (place_bad (tp := tp) HK3.out HK2.out HX.out ke)
            have keb : (eo == 0) = false := beq_eq_false_iff_ne.2 ke
            go_wp2_with fail
            go_ret3
            exact ⟨⟨_, HP.out _ HV.out.symm, rfl⟩, HC.out⟩
        | x :: y :: r, HL, HHO, HSZ =>
          have HX := Lib.hid (show hostOf ⟨true, me, tg, mi, st, re, fs⟩ th = (emB, 61) from by rw [HHO.out, if_pos (by simp)])
          have HV := Lib.hid (place_bad (tp := tp) HK3.out HK2.out HX.out (by decide))
          have hl2 : (1 : Int) < (((x :: y :: r).length : Nat) : Int) := by simp; omega
          generalize (x :: y :: r).length = ln at hl2 ⊢
          go_wp2_with fail
          go_ret3
          exact ⟨⟨_, HP.out _ HV.out.symm, rfl⟩, HC.out⟩
  · have HV := Lib.hid (show placeG ⟨true, me, tg, mi, st, re, fs⟩ f th tp er = (emB, emB, er) from by unfold placeG; rw [if_neg k1])
    have k1b : (er == 0) = false := beq_eq_false_iff_ne.2 k1
    go_wp2_with fail
    go_ret3
    exact ⟨⟨_, HP.out _ HV.out.symm, rfl⟩, HC.out⟩
end Go.Proofs.YtjndgkbikhndoaaGreatDoor
