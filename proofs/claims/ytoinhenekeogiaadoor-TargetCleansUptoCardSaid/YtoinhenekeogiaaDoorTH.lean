/- Layer 6: the reference's Clean. -/
import Derived.Test.YtoinhenekeogiaaDoorTG
namespace Go.Proofs.YtoinhenekeogiaaDoor
open Go.RowKit Go.ChangeShapes Go.WideShapes
set_option linter.unusedVariables false

/-- In the midst of the reference's Clean, before place k. -/
def RInv (KB : List ByteArray) (S : List UInt8) (k : Nat) (kl : List ByteArray) (cur : List UInt8) : Prop :=
  (k ≤ S.length → cleanL kl ((partsL cur (S.drop k)).map mk) = KB) ∧ (k = S.length + 1 → kl = KB)
theorem RInv.char {KB : List ByteArray} {S : List UInt8} {k : Nat} {kl : List ByteArray} {cur : List UInt8} {c : UInt8} (h : RInv KB S k kl cur) (hc : S[k]? = some c) (h47 : c ≠ 47) : RInv KB S (k + 1) kl (cur ++ [c]) := by
  have hk := (List.getElem?_eq_some_iff.1 hc).1
  have := h.1 (by omega)
  rw [drop_get hc, partsL_no h47] at this
  exact ⟨fun _ => this, fun e => by omega⟩
theorem partsL_ne (cur l : List UInt8) : partsL cur l ≠ [] := by
  intro h
  have := tot_parts l cur
  rw [h] at this
  simp [tot] at this
theorem RInv.flush {KB : List ByteArray} {S : List UInt8} {k : Nat} {kl : List ByteArray} {cur : List UInt8} (h : RInv KB S k kl cur) (hc : S[k]? = some 47) : RInv KB S (k + 1) (stepC kl (mk cur) false) [] := by
  have hk := (List.getElem?_eq_some_iff.1 hc).1
  have := h.1 (by omega)
  rw [drop_get hc, partsL_sl, List.map_cons] at this
  have e : ((partsL [] (S.drop (k + 1))).map mk).isEmpty = false := by
    rw [List.isEmpty_eq_false_iff]
    intro q
    exact partsL_ne [] _ (List.map_eq_nil_iff.1 q)
  have this : cleanL (stepC kl (mk cur) ((partsL [] (S.drop (k + 1))).map mk).isEmpty) ((partsL [] (S.drop (k + 1))).map mk) = KB := this
  rw [e] at this
  exact ⟨fun _ => this, fun e => by omega⟩
theorem RInv.fin {KB : List ByteArray} {S : List UInt8} {k : Nat} {kl : List ByteArray} {cur : List UInt8} (h : RInv KB S k kl cur) (hk : k = S.length) : RInv KB S (k + 1) (stepC kl (mk cur) true) [] := by
  have := h.1 (by omega)
  rw [hk, List.drop_length] at this
  have this : stepC kl (mk cur) true = KB := this
  exact ⟨fun q => by omega, fun _ => this⟩
theorem slice_run2 (s : ByteArray) (k : Nat) (c : UInt8) (h : s.data.toList[k]? = some c) : ∀ w, (Instr.slice 9 (.string s) (some (.int .i64 (k : Int))) (some (.int .i64 ((k : Int) + 1))) none).run Tryd.prog w = .ok (.string (mk [c])) w := by
  intro w
  have hk := (List.getElem?_eq_some_iff.1 h).1
  rw [toList_len] at hk
  have := slice_run s k (k + 1) w (by omega) (by omega)
  rw [one_text s k c h] at this
  exact this
theorem join_take (xs : List (List UInt8)) (j : Nat) (x : List UInt8) (h : xs[j]? = some x) : Lib.join (xs.take (j + 1)) [47] = Lib.join (xs.take j) [47] ++ (if 0 < j then [47] else []) ++ x := by
  have hj := (List.getElem?_eq_some_iff.1 h).1
  rw [List.take_add_one, h]
  have gen : ∀ (ys : List (List UInt8)), Lib.join (ys ++ [x]) [47] = Lib.join ys [47] ++ (if 0 < ys.length then [47] else []) ++ x := by
    intro ys
    induction ys with
    | nil => simp [Lib.join]
    | cons y r ih =>
      cases r with
      | nil => simp [Lib.join]
      | cons z r =>
        unfold Lib.join at ih ⊢
        rw [List.cons_append, List.cons_append, List.intercalate_cons_cons, List.intercalate_cons_cons]
        rw [List.cons_append] at ih
        rw [ih]
        simp
  have := gen (xs.take j)
  rw [List.length_take, Nat.min_eq_left (by omega)] at this
  exact this
set_option maxHeartbeats 8000000 in
set_option maxRecDepth 100000 in
theorem rclean_walk (s : ByteArray) (w : World) (h1 : 1 ≤ s.size) (h8 : s.size ≤ 8192) (hp : (s[0]'(by omega)).toNat = 47) :
    Calls Tryd.prog 7 #[.string s] w fun o w' => o = .returned (.tuple #[.string (cleanB (s.extract 1 s.size)), .int .i64 0]) ∧ Hid (Chg [] w w') := by
  have h2 : ¬ (8192 : Int) < (s.size : Int) := by omega
  have he : s.toList.isEmpty = false := by
    rw [Lib.toList_data, List.isEmpty_eq_false_iff]
    intro q
    have := toList_len s
    rw [q] at this
    simp at this
    omega
  have hp2 : ((s[0]'(by omega)).toNat : Int) = 47 := by omega
  have hlen := toList_len s
  obtain ⟨KB, hKB⟩ : ∃ KB, keptB (s.extract 1 s.size) = KB := ⟨_, rfl⟩
  have HR0 : Hid (RInv KB s.data.toList 1 [] []) := Lib.hid ⟨fun _ => by
    have : KB = cleanL [] (partsB (s.extract 1 s.size)) := hKB.symm
    rw [this, parts_eq, ext_tail], fun e => by omega⟩
  have HCB := cleanB_list (s.extract 1 s.size)
  rw [hKB] at HCB
  have HKL := Lib.hid (show KB.length ≤ 8193 from by
    rw [← hKB]
    unfold keptB
    refine Nat.le_trans (cleanL_len _ []) ?_
    have q1 := parts_len (s.extract 1 s.size)
    have q2 := count_le (s.extract 1 s.size)
    have q3 : (s.extract 1 s.size).size ≤ 8192 := by
      rw [← toList_len, ext_tail, List.length_drop, toList_len]
      omega
    simp
    omega)
  have HKT := Lib.hid (show tot KB ≤ 8193 from by
    rw [← hKB]
    unfold keptB
    refine Nat.le_trans (cleanL_tot _ []) ?_
    rw [parts_eq, tot_parts, ext_tail, List.length_drop, toList_len]
    show 0 + (0 + (s.size - 1) + 1) ≤ 8193
    omega)
  have HCBH := Lib.hid HCB
  clear HCB hKB
  generalize cleanB (s.extract 1 s.size) = CB at *
  have hs3 : (s.size : Int) ≤ 8192 := by omega
  have HLEN := Lib.hid hlen
  clear hlen hp
  go_enter Tryd.func7, Tryd.ntmps7
  go_wp2
  go_loopw [4, 5, 6] (fun v pt i wr => ∃ (k : Nat) (kl : List ByteArray) (t : ByteArray) (cur : List UInt8), i = .int .i64 k ∧ pt = .string t ∧ 1 ≤ k ∧ k ≤ s.size + 1 ∧ kl.length ≤ k ∧ cur.length ≤ k ∧ Hid (t.data.toList = cur) ∧ Hid (OwnS w.heap.size wr v kl) ∧ Hid (RInv KB s.data.toList k kl cur) ∧ Hid (Chg [] w wr)) (fun _ _ i _ => s.size + 1 - (intOf i).toNat)
  case atStart => exact ⟨1, [], ⟨#[]⟩, [], rfl, rfl, by omega, by omega, by simp, by simp, Lib.hid rfl, Lib.hid (OwnS.nil _ _), HR0, Chg.refl _ _⟩
  case round =>
    obtain ⟨k, kl, t, cur, rfl, rfl, hk1, hk, hkl, hcl, HT, HO, HR, HC⟩ := hrel
    obtain ⟨A, cap, rfl⟩ := HO.out.form
    have hts : t.size ≤ 8193 := by rw [← toList_len, HT.out]; omega
    by_cases hle : k ≤ s.size
    · have hle2 : (k : Int) ≤ (s.size : Int) := by omega
      by_cases hlt : k < s.size
      · have hlt2 : (k : Int) < (s.size : Int) := by omega
        have hnl : ((k : Int) == (s.size : Int)) = false := beq_eq_false_iff_ne.2 (by omega)
        have hcl' := toList_get s k hlt
        obtain ⟨c, hc⟩ : ∃ c, s[k]'hlt = c := ⟨_, rfl⟩
        rw [hc] at hcl'
        by_cases h47 : c = 47
        · subst h47
          have HN : Hid (∀ kl', stepC kl t false = kl' → RInv KB s.data.toList (k + 1) kl' []) := Lib.hid (fun kl' e => by
            rw [← e, mk_eq HT.out]
            exact HR.out.flush hcl')
          clear hcl' HR
          (cases e1 : (t.toList == [46]);
           · (cases e2 : (t.toList == [46, 46]);
              · (have HE := Lib.hid (show stepC kl t false = kl ++ [t] from by unfold stepC; rw [e1, e2, if_neg (by decide), if_neg (by decide)]);
                 (obtain ⟨v5, w5, hr, ho, hg⟩ := run_pushS 37 w.heap.size (wr.alloc (.cells #[.string t] 9)) (.slice A kl.length cap) kl t wr.heap.size (ownsRow_chg HO.out ((Chg.refl [] wr).alloc _)) (Blk.new _ _ _) (by first | omega | (simp; omega)) (by have := HC.out.size; simp; omega);
                  have HO5 := Lib.hid ho;
                  have HC5 := Lib.hid (Chg.grownOwn (HC.out.alloc (.cells #[.string t] 9)) (ownsRow_chg HO.out ((Chg.refl [] wr).alloc (.cells #[.string t] 9))) (Nat.le_refl _) hg);
                  clear ho hg;
                  go_wp2_with (at_builtin; refine wpList_appS rfl _ _ rfl _ _ rfl rfl v5 w5 hr ?_);
                  go_roundw;
                  case rel => exact ⟨k + 1, _, ⟨#[]⟩, [], by go_num, rfl, by omega, by omega, by (first | omega | (rw [List.length_append, List.length_singleton]; omega) | (simp; omega)), by simp, Lib.hid rfl, HO5, Lib.hid (HN.out _ HE.out), HC5⟩;
                  case measure => simp [intOf]; omega))
              · (by_cases h0 : kl.length = 0;
                 · (have hkl0 : kl = [] := List.eq_nil_of_length_eq_zero h0;
                    subst hkl0;
                    have HE := Lib.hid (show stepC [] t false = [] from by unfold stepC; rw [e1, e2, if_neg (by decide), if_pos rfl]; rfl);
                    (go_wp2;
                     go_roundw;
                     case rel => exact ⟨k + 1, [], ⟨#[]⟩, [], by go_num, rfl, by omega, by omega, by (first | omega | (simp; omega)), by simp, Lib.hid rfl, HO, Lib.hid (HN.out _ HE.out), HC⟩;
                     case measure => simp [intOf]; omega))
                 · (obtain ⟨u, hcut, hou⟩ := HO.out.cut (by omega);
                    have hp0 : (0 : Int) < (kl.length : Int) := by omega;
                    have HOU := Lib.hid hou;
                    have hdl : kl.dropLast.length = kl.length - 1 := List.length_dropLast;
                    have HE := Lib.hid (show stepC kl t false = kl.dropLast from by unfold stepC; rw [e1, e2, if_neg (by decide), if_pos rfl]; rfl);
                    clear hou;
                    (go_wp2;
                     go_roundw;
                     case rel => exact ⟨k + 1, kl.dropLast, ⟨#[]⟩, [], by go_num, rfl, by omega, by omega, by (first | omega | (simp; omega)), by simp, Lib.hid rfl, HOU, Lib.hid (HN.out _ HE.out), HC⟩;
                     case measure => simp [intOf]; omega))))
           · (have e2 : (t.toList == [46, 46]) = false := by (rw [beq_iff_eq.1 e1]; rfl);
              have HE := Lib.hid (show stepC kl t false = kl from by unfold stepC; rw [e1, if_pos rfl]; rfl);
              (go_wp2;
               go_roundw;
               case rel => exact ⟨k + 1, kl, ⟨#[]⟩, [], by go_num, rfl, by omega, by omega, by (first | omega | (simp; omega)), by simp, Lib.hid rfl, HO, Lib.hid (HN.out _ HE.out), HC⟩;
               case measure => simp [intOf]; omega)))
        · have h47' : ((c.toNat : Int) == 47) = false := beq_eq_false_iff_ne.2 (fun e => h47 (UInt8.toNat_inj.1 (by have : (47 : UInt8).toNat = 47 := rfl; omega)))
          have hsl := slice_run2 s k c hcl'
          have HN := Lib.hid (HR.out.char hcl' h47)
          have HT2 : Hid ((t ++ mk [c]).data.toList = cur ++ [c]) := Lib.hid (by rw [ByteArray.data_append, Array.toList_append, HT.out]; rfl)
          have hcat : ¬ (9223372036854775807 < t.size + (mk [c]).size) := by
            show ¬ (9223372036854775807 < t.size + 1)
            omega
          have h47n : ((c.toNat : Int) != 47) = true := by unfold bne; rw [h47']; rfl
          clear hcl' HR HT h47
          generalize mk [c] = cb at *
          go_wp2
          go_roundw
          case rel => exact ⟨k + 1, kl, _, cur ++ [c], by go_num, rfl, by omega, by omega, by omega, by (rw [List.length_append, List.length_singleton]; omega), HT2, HO, HN, HC⟩
          case measure => simp [intOf]; omega
      · obtain rfl : k = s.size := by omega
        have HN : Hid (∀ kl', stepC kl t true = kl' → RInv KB s.data.toList (s.size + 1) kl' []) := Lib.hid (fun kl' e => by
          rw [← e, mk_eq HT.out]
          exact HR.out.fin HLEN.out.symm)
        clear HR
        skip
        (cases e1 : (t.toList == [46]);
         · (cases e2 : (t.toList == [46, 46]);
            · (have HE := Lib.hid (show stepC kl t true = kl ++ [t] from by unfold stepC; rw [e1, e2, if_neg (by decide), if_neg (by decide)]);
               (obtain ⟨v5, w5, hr, ho, hg⟩ := run_pushS 37 w.heap.size (wr.alloc (.cells #[.string t] 9)) (.slice A kl.length cap) kl t wr.heap.size (ownsRow_chg HO.out ((Chg.refl [] wr).alloc _)) (Blk.new _ _ _) (by first | omega | (simp; omega)) (by have := HC.out.size; simp; omega);
                have HO5 := Lib.hid ho;
                have HC5 := Lib.hid (Chg.grownOwn (HC.out.alloc (.cells #[.string t] 9)) (ownsRow_chg HO.out ((Chg.refl [] wr).alloc (.cells #[.string t] 9))) (Nat.le_refl _) hg);
                clear ho hg;
                go_wp2_with (at_builtin; refine wpList_appS rfl _ _ rfl _ _ rfl rfl v5 w5 hr ?_);
                go_roundw;
                case rel => exact ⟨s.size + 1, _, ⟨#[]⟩, [], by go_num, rfl, by omega, by omega, by (first | omega | (rw [List.length_append, List.length_singleton]; omega) | (simp; omega)), by simp, Lib.hid rfl, HO5, Lib.hid (HN.out _ HE.out), HC5⟩;
                case measure => simp [intOf]))
            · (by_cases h0 : kl.length = 0;
               · (have hkl0 : kl = [] := List.eq_nil_of_length_eq_zero h0;
                  subst hkl0;
                  have HE := Lib.hid (show stepC [] t true = [] ++ [⟨#[]⟩] from by unfold stepC; rw [e1, e2, if_neg (by decide), if_pos rfl]; rfl);
                  (obtain ⟨v5, w5, hr, ho, hg⟩ := run_pushS 37 w.heap.size (wr.alloc (.cells #[.string ⟨#[]⟩] 9)) (.slice A 0 cap) [] ⟨#[]⟩ wr.heap.size (ownsRow_chg HO.out ((Chg.refl [] wr).alloc _)) (Blk.new _ _ _) (by first | omega | (simp; omega)) (by have := HC.out.size; simp; omega);
                   have HO5 := Lib.hid ho;
                   have HC5 := Lib.hid (Chg.grownOwn (HC.out.alloc (.cells #[.string ⟨#[]⟩] 9)) (ownsRow_chg HO.out ((Chg.refl [] wr).alloc (.cells #[.string ⟨#[]⟩] 9))) (Nat.le_refl _) hg);
                   clear ho hg;
                   go_wp2_with (at_builtin; refine wpList_appS rfl _ _ rfl _ _ rfl rfl v5 w5 hr ?_);
                   go_roundw;
                   case rel => exact ⟨s.size + 1, _, ⟨#[]⟩, [], by go_num, rfl, by omega, by omega, by (first | omega | (rw [List.length_append, List.length_singleton]; omega) | (simp; omega)), by simp, Lib.hid rfl, HO5, Lib.hid (HN.out _ HE.out), HC5⟩;
                   case measure => simp [intOf]))
               · (obtain ⟨u, hcut, hou⟩ := HO.out.cut (by omega);
                  have hp0 : (0 : Int) < (kl.length : Int) := by omega;
                  have HOU := Lib.hid hou;
                  have hdl : kl.dropLast.length = kl.length - 1 := List.length_dropLast;
                  have HE := Lib.hid (show stepC kl t true = kl.dropLast ++ [⟨#[]⟩] from by unfold stepC; rw [e1, e2, if_neg (by decide), if_pos rfl]; rfl);
                  clear hou;
                  (obtain ⟨v5, w5, hr, ho, hg⟩ := run_pushS 37 w.heap.size (wr.alloc (.cells #[.string ⟨#[]⟩] 9)) u kl.dropLast ⟨#[]⟩ wr.heap.size (ownsRow_chg HOU.out ((Chg.refl [] wr).alloc _)) (Blk.new _ _ _) (by first | omega | (simp; omega)) (by have := HC.out.size; simp; omega);
                   have HO5 := Lib.hid ho;
                   have HC5 := Lib.hid (Chg.grownOwn (HC.out.alloc (.cells #[.string ⟨#[]⟩] 9)) (ownsRow_chg HOU.out ((Chg.refl [] wr).alloc (.cells #[.string ⟨#[]⟩] 9))) (Nat.le_refl _) hg);
                   clear ho hg;
                   go_wp2_with (at_builtin; refine wpList_appS rfl _ _ rfl _ _ rfl rfl v5 w5 hr ?_);
                   go_roundw;
                   case rel => exact ⟨s.size + 1, _, ⟨#[]⟩, [], by go_num, rfl, by omega, by omega, by (first | omega | (rw [List.length_append, List.length_singleton]; omega) | (simp; omega)), by simp, Lib.hid rfl, HO5, Lib.hid (HN.out _ HE.out), HC5⟩;
                   case measure => simp [intOf]))))
         · (have e2 : (t.toList == [46, 46]) = false := by (rw [beq_iff_eq.1 e1]; rfl);
            have HE := Lib.hid (show stepC kl t true = kl ++ [⟨#[]⟩] from by unfold stepC; rw [e1, if_pos rfl]; rfl);
            (obtain ⟨v5, w5, hr, ho, hg⟩ := run_pushS 37 w.heap.size (wr.alloc (.cells #[.string ⟨#[]⟩] 9)) (.slice A kl.length cap) kl ⟨#[]⟩ wr.heap.size (ownsRow_chg HO.out ((Chg.refl [] wr).alloc _)) (Blk.new _ _ _) (by first | omega | (simp; omega)) (by have := HC.out.size; simp; omega);
             have HO5 := Lib.hid ho;
             have HC5 := Lib.hid (Chg.grownOwn (HC.out.alloc (.cells #[.string ⟨#[]⟩] 9)) (ownsRow_chg HO.out ((Chg.refl [] wr).alloc (.cells #[.string ⟨#[]⟩] 9))) (Nat.le_refl _) hg);
             clear ho hg;
             go_wp2_with (at_builtin; refine wpList_appS rfl _ _ rfl _ _ rfl rfl v5 w5 hr ?_);
             go_roundw;
             case rel => exact ⟨s.size + 1, _, ⟨#[]⟩, [], by go_num, rfl, by omega, by omega, by (first | omega | (rw [List.length_append, List.length_singleton]; omega) | (simp; omega)), by simp, Lib.hid rfl, HO5, Lib.hid (HN.out _ HE.out), HC5⟩;
             case measure => simp [intOf])))
    · obtain rfl : k = s.size + 1 := by omega
      have hkb : kl = KB := HR.out.2 (by rw [HLEN.out])
      subst hkb
      have HJN := Lib.hid (show ∀ j, (Lib.join ((kl.map (·.data.toList)).take j) [47]).length ≤ 70000000 from fun j => by
        have h1 := inter_len [47] 8193 ((kl.map (·.data.toList)).take j) (by
          intro y hy
          obtain ⟨z, hz, rfl⟩ := List.mem_map.1 (List.mem_of_mem_take hy)
          have : tot [z] ≤ tot kl := by
            obtain ⟨a, b, rfl⟩ := List.append_of_mem hz
            rw [show a ++ z :: b = a ++ ([z] ++ b) from rfl, tot_app, tot_app]
            omega
          rw [tot_one] at this
          have := HKT.out
          omega)
        have h2 : ((kl.map (·.data.toList)).take j).length ≤ 8193 := by
          rw [List.length_take, List.length_map]
          have := HKL.out
          omega
        have h3 : ((kl.map (·.data.toList)).take j).length * (8193 + ([47] : List UInt8).length) ≤ 8193 * 8194 := Nat.mul_le_mul h2 (Nat.le_refl _)
        omega)
      have hkl2 : (kl.length : Int) ≤ 8193 := by have := HKL.out; omega
      clear HR
      go_wp2
      go_loopw [7, 74] (fun sv i w' => ∃ (j : Nat) (J : ByteArray), i = .int .i64 j ∧ j ≤ kl.length ∧ sv = .string J ∧ Hid (J.data.toList = 47 :: Lib.join ((kl.map (·.data.toList)).take j) [47]) ∧ w' = wr) (fun _ i _ => kl.length - (intOf i).toNat)
      case atStart => exact ⟨0, ⟨#[47]⟩, rfl, by omega, rfl, Lib.hid rfl, rfl⟩
      case round =>
        obtain ⟨j, J, rfl, hj, rfl, HJ, rfl⟩ := hrel
        have hJs : J.size ≤ 70000001 := by
          rw [← toList_len, HJ.out, List.length_cons]
          have := HJN.out j
          omega
        by_cases hjl : j < kl.length
        · have hjl2 : (j : Int) < (kl.length : Int) := by omega
          obtain ⟨g, cap', e, q1, q2, q3⟩ := HO.out.read (by omega)
          injection e with e e2 e3
          subst e e3
          obtain ⟨x, hx⟩ : ∃ x, kl[j]? = some x := ⟨_, List.getElem?_eq_getElem hjl⟩
          have cell := q3 j x hx
          have hxs : x.size ≤ 8193 := by
            have : tot [x] ≤ tot kl := by
              obtain ⟨a, b, hab⟩ := List.append_of_mem (List.mem_of_getElem? hx)
              rw [hab, show a ++ x :: b = a ++ ([x] ++ b) from rfl, tot_app, tot_app]
              omega
            rw [tot_one, toList_len] at this
            have := HKT.out
            omega
          have hjt := join_take (kl.map (·.data.toList)) j x.data.toList (by rw [List.getElem?_map, hx]; rfl)
          have HJT := Lib.hid hjt
          clear hjt q3 hx
          by_cases hj0 : 0 < j
          · have hj1 : (0 : Int) < (j : Int) := by omega
            have hc1 : ¬ (9223372036854775807 < J.size + (⟨#[47]⟩ : ByteArray).size) := by
              show ¬ (9223372036854775807 < J.size + 1)
              omega
            have hc2 : ¬ (9223372036854775807 < (J ++ ⟨#[47]⟩).size + x.size) := by
              rw [ByteArray.size_append]
              show ¬ (9223372036854775807 < J.size + 1 + x.size)
              omega
            have HJ2 : Hid ((J ++ ⟨#[47]⟩ ++ x).data.toList = 47 :: Lib.join ((kl.map (·.data.toList)).take (j + 1)) [47]) := Lib.hid (by
              rw [HJT.out, if_pos hj0, ByteArray.data_append, Array.toList_append, ByteArray.data_append, Array.toList_append, HJ.out]
              simp)
            clear hj0
            go_wp2
            go_roundw
            case rel => exact ⟨j + 1, _, by go_num, by omega, rfl, HJ2, by first | rfl | trivial⟩
            case measure => simp [intOf]; omega
          · have hj1 : ¬ (0 : Int) < (j : Int) := by omega
            have hc2 : ¬ (9223372036854775807 < J.size + x.size) := by omega
            have HJ2 : Hid ((J ++ x).data.toList = 47 :: Lib.join ((kl.map (·.data.toList)).take (j + 1)) [47]) := Lib.hid (by
              rw [HJT.out, if_neg hj0, ByteArray.data_append, Array.toList_append, HJ.out]
              simp)
            clear hj0
            go_wp2
            go_roundw
            case rel => exact ⟨j + 1, _, by go_num, by omega, rfl, HJ2, by first | rfl | trivial⟩
            case measure => simp [intOf]; omega
        · obtain rfl : j = kl.length := by omega
          have hJ : J = CB := by
            refine (mk_eq HJ.out).trans (mk_eq ?_).symm
            rw [HCBH.out]
            congr 2
            rw [List.take_of_length_le (by rw [List.length_map]; omega)]
          go_wp2
          go_ret2
          exact ⟨by rw [← hJ]; rfl, HC.out⟩
theorem rclean_any (s : ByteArray) (w : World) (c : ByteArray) (g : Int) (hz : cleanF s = (c, g)) :
    Calls Tryd.prog 7 #[.string s] w fun o w' => o = .returned (.tuple #[.string c, .int .i64 g]) ∧ Hid (Chg [] w w') := by
  unfold cleanF at hz
  by_cases h0 : s.size = 0
  · have hl : s.data.toList = [] := List.eq_nil_of_length_eq_zero (by rw [toList_len]; exact h0)
    rw [if_pos (by rw [hl]; rfl)] at hz
    obtain ⟨q1, q2⟩ := Prod.mk.inj hz
    subst q1 q2
    have he : s.toList.isEmpty = true := by rw [Lib.toList_data, hl]; rfl
    clear hz hl
    go_enter Tryd.func7, Tryd.ntmps7
    go_wp2
    go_ret2
    exact ⟨rfl, Chg.refl _ _⟩
  · have he : s.toList.isEmpty = false := by
      rw [Lib.toList_data, List.isEmpty_eq_false_iff]
      intro q
      have := toList_len s
      rw [q] at this
      simp at this
      omega
    have hg0 := toList_get s 0 (by omega)
    have hpre : Lib.hasPrefix s.data.toList [47] = decide ((s[0]'(by omega)).toNat = 47) := by
      generalize s[0]'(by omega) = x at *
      cases hl : s.data.toList with
      | nil => rw [hl] at hg0; simp at hg0
      | cons y r =>
        rw [hl] at hg0
        have : y = x := by simpa using hg0
        subst this
        unfold Lib.hasPrefix
        simp only [List.isPrefixOf, Bool.and_true]
        rw [Bool.eq_iff_iff, beq_iff_eq, decide_eq_true_eq, ← UInt8.toNat_inj]
        exact ⟨fun e => e.symm, fun e => e.symm⟩
    by_cases hx : (s[0]'(by omega)).toNat = 47
    · rw [hpre, decide_eq_true hx, if_neg (by decide)] at hz
      by_cases h8 : 8192 < s.size
      · rw [if_pos h8] at hz
        obtain ⟨q1, q2⟩ := Prod.mk.inj hz
        subst q1 q2
        have h2 : (8192 : Int) < (s.size : Int) := by omega
        have hx2 : ((s[0]'(by omega)).toNat : Int) = 47 := by omega
        clear hz hg0 hpre hx
        go_enter Tryd.func7, Tryd.ntmps7
        go_wp2
        go_ret2
        exact ⟨rfl, Chg.refl _ _⟩
      · rw [if_neg h8] at hz
        obtain ⟨q1, q2⟩ := Prod.mk.inj hz
        subst q1 q2
        exact rclean_walk s w (by omega) (by omega) hx
    · rw [hpre, decide_eq_false hx, if_pos rfl] at hz
      obtain ⟨q1, q2⟩ := Prod.mk.inj hz
      subst q1 q2
      have hx2 : ((s[0]'(by omega)).toNat : Int) ≠ 47 := by omega
      clear hz hg0 hpre
      go_enter Tryd.func7, Tryd.ntmps7
      go_wp2
      go_ret2
      exact ⟨rfl, Chg.refl _ _⟩
end Go.Proofs.YtoinhenekeogiaaDoor
