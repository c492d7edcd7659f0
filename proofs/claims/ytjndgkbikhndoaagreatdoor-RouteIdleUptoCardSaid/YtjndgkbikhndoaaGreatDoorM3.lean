/- Layer 6: Clean, of the program and of the reference. -/
import Derived.Test.YtjndgkbikhndoaaGreatDoorM1
import Derived.OwnWalk
import Derived.Maps.AppendAt
import Derived.Lib.SplitLaws
namespace Go.Proofs.YtjndgkbikhndoaaGreatDoor
open Go.RowKit Go.ChangeShapes Go.WideShapes
set_option linter.unusedVariables false

/-- A slice of texts that lies in memory from block B on. -/
def OwnS (B : Nat) (w : World) (v : Value) (ts : List ByteArray) : Prop := w.ownsRow B 9 1 v ts.length (ts.map Value.string)
theorem OwnS.nil (B : Nat) (w : World) : OwnS B w (.slice none 0 0) [] := World.ownsRow_nil _ _ _ _
theorem OwnS.form {B : Nat} {w : World} {v : Value} {ts : List ByteArray} (h : OwnS B w v ts) : ∃ A cap, v = .slice A ts.length cap := by
  rcases h.2 with ⟨rfl, h0⟩ | ⟨g, cap, cur, rfl, _⟩
  · exact ⟨none, 0, by rw [h0]⟩
  · exact ⟨_, cap, rfl⟩
theorem OwnS.read {B : Nat} {w : World} {v : Value} {ts : List ByteArray} (h : OwnS B w v ts) (hl : 0 < ts.length) : ∃ g cap, v = .slice (some ⟨g, 0, none⟩) ts.length cap ∧ ts.length ≤ cap ∧ g < w.heap.size ∧ ∀ (j : Nat) (x : ByteArray), ts[j]? = some x → w.cell? ⟨g, j, none⟩ = some (.string x) := by
  rcases h.2 with ⟨rfl, h0⟩ | ⟨g, cap, cur, rfl, hb, hh, h1, h2, h3, h4⟩
  · omega
  · refine ⟨g, cap, rfl, h1, lt_of_block hh, fun j x hj => ?_⟩
    have hi' : (cur.toList.take (ts.length * 1))[j]? = some (.string x) := by
      rw [h4, List.getElem?_map, hj]
      rfl
    rw [List.getElem?_take] at hi'
    split at hi'
    · simp only [World.cell?, hh]
      simpa using hi'
    · cases hi'
theorem ownsRow_chg {B e k n : Nat} {v : Value} {xs : List Value} {w w' : World} (h : w.ownsRow B e k v n xs) (hc : Chg [] w w') : w'.ownsRow B e k v n xs := by
  refine ⟨h.1, ?_⟩
  rcases h.2 with h2 | ⟨g, cap, cur, rfl, hb, hh, r⟩
  · exact .inl h2
  · exact .inr ⟨g, cap, cur, rfl, hb, by rw [hc.block g (lt_of_block hh) (by simp)]; exact hh, r⟩
theorem OwnS.chg {B : Nat} {w w' : World} {v : Value} {ts : List ByteArray} (h : OwnS B w v ts) (hc : Chg [] w w') : OwnS B w' v ts := ownsRow_chg h hc
theorem OwnS.push {B : Nat} {w : World} {v : Value} {ts : List ByteArray} {x : ByteArray} (h : w.ownsRow B 9 1 v (ts.length + 1) (ts.map Value.string ++ [.string x])) : OwnS B w v (ts ++ [x]) := by
  unfold OwnS
  simpa using h
/-- A row of one's own has grown: nothing that lay has turned. -/
theorem Chg.grownOwn {B e k n : Nat} {v : Value} {xs : List Value} {w0 w w' : World} (h : Chg [] w0 w) (ho : w.ownsRow B e k v n xs) (hB : w0.heap.size ≤ B) (hg : w.grownBy w' v.ownBlock) : Chg [] w0 w' :=
  h.grown hg (fun q hq hlt => by have := ho.lt q hq; omega)
theorem info9 : (Tryz.prog.info? 9).map (fun i => (i.zero, i.size, i.bytes)) = some (some (.string ⟨#[]⟩), 1, 16) := by kernel_rfl
set_option maxRecDepth 100000 in
/-- The last one is taken away. -/
theorem OwnS.cut {B : Nat} {w : World} {v : Value} {ts : List ByteArray} (h : OwnS B w v ts) (hl : 0 < ts.length) :
    ∃ u, (∀ W, (Instr.slice 22 v none (some (.int .i64 ((ts.length : Int) - 1))) none).run Tryz.prog W = .ok u W) ∧ OwnS B w u ts.dropLast := by
  rcases h.2 with ⟨rfl, h0⟩ | ⟨g, cap, cur, rfl, hb, hh, h1, h2, h3, h4⟩
  · omega
  · refine ⟨.slice (some ⟨g, 0, none⟩) (ts.length - 1) cap, fun W => ?_, ?_⟩
    · rw [run_slice_h (P := Tryz.prog) W 22 _ ts.length cap Tryz.underlying22 .i64 ((ts.length : Int) - 1) (by omega) (by omega)]
      have e1 : ((ts.length : Int) - 1).toNat = ts.length - 1 := by omega
      rw [e1]
      go_simp
    · have hl2 : ts.dropLast.length = ts.length - 1 := List.length_dropLast
      refine ⟨by rw [List.length_map, hl2]; omega, .inr ⟨g, cap, cur, by rw [hl2], hb, hh, by rw [hl2]; omega, h2, h3, ?_⟩⟩
      rw [hl2, List.dropLast_eq_take, List.map_take, ← h4, List.take_take]
      congr 1
      omega
set_option maxRecDepth 100000 in
theorem run_pushS (ty B : Nat) (w : World) (v : Value) (ts : List ByteArray) (x : ByteArray) (ad : Nat) (ho : OwnS B w v ts) (hc : Blk w ad [.string x] 9) (hl : ts.length ≤ 4000000) (hB : B ≤ w.heap.size) :
    ∃ v' w', (Builtin.append_ #[22, 22] ty #[v, .slice (some ⟨ad, 0, none⟩) 1 1]).run Tryz.prog w = .ok v' w' ∧ OwnS B w' v' (ts ++ [x]) ∧ w.grownBy w' v.ownBlock := by
  obtain ⟨i0, hi, hz0, hz1, hz2⟩ := info_parts info9
  obtain ⟨v', w', h1, h2, h3, _⟩ := run_append_own (P := Tryz.prog) w B 22 ty 9 i0 _ 1 16 Tryz.underlying22 hi hz0 hz1 hz2 rfl (by decide) v ts.length _ ho ⟨ad, 0, none⟩ 1 1 [.string x] rfl (by
    intro j u hj
    match j, hj with
    | 0, hj =>
      injection hj with hj
      subst hj
      rw [Addr.add_lit]
      exact hc.cell 0 _ rfl) (by simp [Value.oneCell']) (by unfold maxLen; omega) (by omega) hB
  exact ⟨v', w', h1, OwnS.push h2, h3⟩
/-- append of texts, in the list of a plain region's operations. -/
theorem wpList_appS {w : World} {ops : Array Oper} {rest : List Oper} {o : Oper} {a : Go.Act} {Q : Exit → Go.Act → World → Prop} (hgd : o.guard = none) (s x : Operand)
    (ho : o.op = .call { callee := .builtin .append, args := #[s, x], argTypes := #[22, 22] }) (v u : Value) (hs : a.eval s = v) (hx : a.eval x = u) (v' : Value) (w' : World)
    (hr : (Builtin.append_ #[22, 22] o.type #[v, u]).run Tryz.prog w = .ok v' w') (h : wpList Tryz.prog ops Q rest (a.put o.dst v') w') : wpList Tryz.prog ops Q (o :: rest) a w := by
  refine wpList_plain hgd fun K hK => ?_
  unfold Oper.wp execOp
  simp only [ho, resolve, invoke, builtin, Sem.run_bind, Sem.run_pure, Result.andThen_ok, List.map_toArray, List.map_cons, List.map_nil, hs, hx, hr]
  exact hK _ _ h
/-- One part of a path, behind those that are kept. -/
def stepC (kept : List ByteArray) (x : ByteArray) (last : Bool) : List ByteArray :=
  if (x.toList == [46]) = true then (if last then kept ++ [⟨#[]⟩] else kept)
  else if (x.toList == [46, 46]) = true then (if last then kept.dropLast ++ [⟨#[]⟩] else kept.dropLast)
  else kept ++ [x]
def cleanL : List ByteArray → List ByteArray → List ByteArray
  | kept, [] => kept
  | kept, x :: r => cleanL (stepC kept x r.isEmpty) r
theorem stepC_len (kept : List ByteArray) (x : ByteArray) (b : Bool) : (stepC kept x b).length ≤ kept.length + 1 := by
  unfold stepC
  split
  · split <;> simp
  · split
    · split <;> simp <;> omega
    · simp
theorem cleanL_len : ∀ (l kept : List ByteArray), (cleanL kept l).length ≤ kept.length + l.length
  | [], kept => Nat.le_refl _
  | x :: r, kept => by
    have h1 := cleanL_len r (stepC kept x r.isEmpty)
    have h2 := stepC_len kept x r.isEmpty
    show (cleanL (stepC kept x r.isEmpty) r).length ≤ _
    rw [List.length_cons]
    omega
theorem stepC_all {P : ByteArray → Prop} {kept : List ByteArray} {x : ByteArray} {b : Bool} (h : ∀ y ∈ kept, P y) (hx : (x.toList == [46]) = false → (x.toList == [46, 46]) = false → P x) (h0 : P ⟨#[]⟩) : ∀ y ∈ stepC kept x b, P y := by
  intro y hy
  unfold stepC at hy
  split at hy
  · split at hy
    · rcases List.mem_append.1 hy with h2 | h2
      · exact h y h2
      · rw [List.mem_singleton.1 h2]; exact h0
    · exact h y hy
  · rename_i q1
    split at hy
    · split at hy
      · rcases List.mem_append.1 hy with h2 | h2
        · exact h y (List.dropLast_subset _ h2)
        · rw [List.mem_singleton.1 h2]; exact h0
      · exact h y (List.dropLast_subset _ hy)
    · rename_i q2
      rcases List.mem_append.1 hy with h2 | h2
      · exact h y h2
      · rw [List.mem_singleton.1 h2]; exact hx (Bool.eq_false_iff.2 q1) (Bool.eq_false_iff.2 q2)
theorem cleanL_all {P : ByteArray → Prop} (h0 : P ⟨#[]⟩) : ∀ (l kept : List ByteArray), (∀ y ∈ kept, P y) → (∀ y ∈ l, (y.toList == [46]) = false → (y.toList == [46, 46]) = false → P y) → ∀ y ∈ cleanL kept l, P y
  | [], kept, h, _ => h
  | x :: r, kept, h, hl => cleanL_all h0 r (stepC kept x r.isEmpty) (stepC_all h (hl x List.mem_cons_self) h0) (fun y hy => hl y (List.mem_cons_of_mem _ hy))
theorem inter_len (sep : List UInt8) (M : Nat) : ∀ (xs : List (List UInt8)), (∀ y ∈ xs, y.length ≤ M) → (Lib.join xs sep).length ≤ xs.length * (M + sep.length)
  | [], _ => by simp [Lib.join]
  | [x], h => by
    have := h x List.mem_cons_self
    simp [Lib.join]
    omega
  | x :: y :: r, h => by
    have h1 := h x List.mem_cons_self
    have h2 := inter_len sep M (y :: r) (fun z hz => h z (List.mem_cons_of_mem _ hz))
    unfold Lib.join at h2 ⊢
    rw [List.intercalate_cons_cons, List.length_append, List.length_append]
    rw [List.length_cons, Nat.succ_mul]
    omega
/-- A path's parts, between the slashes. -/
def partsB (s : ByteArray) : List ByteArray := Lib.splitB ⟨#[47]⟩ 0 (Lib.countB s ⟨#[47]⟩) s
theorem splitB_size (sep : ByteArray) : ∀ (k : Nat) (s : ByteArray), ∀ y ∈ Lib.splitB sep 0 k s, y.size ≤ s.size
  | 0, s => by
    intro y hy
    rw [Lib.splitB_zero, List.mem_singleton] at hy
    rw [hy]
    exact Nat.le_refl _
  | k + 1, s => by
    intro y hy
    unfold Lib.splitB at hy
    split at hy
    · rw [List.mem_singleton] at hy
      rw [hy]
      exact Nat.le_refl _
    · have ext_size : ∀ (t : ByteArray) (a b : Nat), (t.extract a b).size ≤ t.size := by
        intro t a b
        show (t.extract a b).data.size ≤ t.data.size
        rw [ByteArray.data_extract, Array.size_extract]
        omega
      rcases List.mem_cons.1 hy with h | h
      · rw [h]
        exact ext_size _ _ _
      · exact Nat.le_trans (splitB_size sep k _ y h) (ext_size _ _ _)
theorem parts_len (s : ByteArray) : (partsB s).length = Lib.countB s ⟨#[47]⟩ + 1 := Lib.splitB_all ⟨#[47]⟩ (by decide) 0 _ s rfl
theorem count_le (s : ByteArray) : Lib.countB s ⟨#[47]⟩ ≤ s.size := Lib.countB_le ⟨#[47]⟩ (by decide) s.size s (Nat.le_refl _)
/-- A path without dots. -/
def cleanB (s : ByteArray) : ByteArray := ⟨#[47]⟩ ++ ⟨(Lib.join ((cleanL [] (partsB s)).map (·.data.toList)) [47]).toArray⟩
def cleanF (s : ByteArray) : ByteArray × Int :=
  if Lib.hasPrefix s.data.toList [47] = false then (⟨#[]⟩, 1) else if 8192 < s.size then (⟨#[]⟩, 2) else (cleanB (s.extract 1 s.size), 0)
theorem slice_from' (s : ByteArray) (a : Nat) (w : World) (ha : a ≤ s.size) : (Instr.slice 9 (.string s) (some (.int .i64 (a : Int))) none none).run Tryz.prog w = .ok (.string (s.extract a s.size)) w := by
  have := run_slice_string_from_if (P := Tryz.prog) w 9 s .i64 (a : Int) Tryz.underlying9
  rw [this]
  simp
  omega
set_option maxHeartbeats 8000000 in
set_option maxRecDepth 100000 in
theorem clean_walk (s : ByteArray) (w : World) (hE : Hid (Env w)) (h1 : 1 ≤ s.size) (h8 : s.size ≤ 8192) (hp : Lib.hasPrefix s.data.toList [47] = true) :
    Calls Tryz.prog 48 #[.string s] w fun o w' => o = .returned (.tuple #[.string (cleanB (s.extract 1 s.size)), .int .i64 0]) ∧ Hid (Chg [] w w') := by
  have h2 : ¬ (8192 : Int) < (s.size : Int) := by omega
  have HP := Lib.hid (fun w => Tryz.strings_HasPrefix s ⟨#[47]⟩ w)
  rw [show (⟨#[47]⟩ : ByteArray).data.toList = [47] from rfl, hp] at HP
  have hs1 := fun w => slice_from' s 1 w h1
  rw [show ((1 : Nat) : Int) = 1 from rfl] at hs1
  have hrs : (s.extract 1 s.size).size ≤ 8192 := by
    show (s.extract 1 s.size).data.size ≤ _
    rw [ByteArray.data_extract, Array.size_extract]
    show min s.size s.data.size - 1 ≤ 8192
    omega
  generalize s.extract 1 s.size = R at *
  obtain ⟨⟨m, hm⟩, -⟩ := hE.out
  have HS := Lib.hid (Tryz.strings_Split R ⟨#[47]⟩ m w (by omega) hm (by decide))
  have hcl := count_le R
  have hpl := parts_len R
  have hps := splitB_size ⟨#[47]⟩ (Lib.countB R ⟨#[47]⟩) R
  have hHS : Hid (Calls Tryz.prog 74 #[.string R, .string ⟨#[47]⟩] w fun e w' =>
      e = .returned (.slice (some ⟨w.heap.size, 0, none⟩) (partsB R).length (partsB R).length) ∧ w' = w.alloc (.cells ((partsB R).map Value.string).toArray 9)) := by
    rw [hpl]
    exact HS
  have hps' : ∀ y ∈ partsB R, y.size ≤ R.size := hps
  have HCB := Lib.hid (show cleanB R = ⟨#[47]⟩ ++ ⟨(Lib.join ((cleanL [] (partsB R)).map (·.data.toList)) [47]).toArray⟩ from rfl)
  have hlen : (partsB R).length ≤ 8193 := by omega
  have hm' := hm
  clear HS hps hpl hcl hm
  generalize cleanB R = CB at *
  generalize partsB R = ps at *
  have hpl1 : (ps.length : Int) ≤ 8193 := by omega
  have HL := Lib.hid (show (cleanL [] ps).length ≤ 8193 from Nat.le_trans (cleanL_len ps []) (by simpa using hlen))
  have HM := Lib.hid (cleanL_all (P := fun y => y.size ≤ 8192) (by show 0 ≤ 8192; omega) ps [] (by simp) (fun y hy _ _ => Nat.le_trans (hps' y hy) hrs))
  have HBK := Lib.hid (Blk.new w (ps.map Value.string) 9)
  have HC1 := Lib.hid ((Chg.refl [] w).alloc (.cells (ps.map Value.string).toArray 9))
  clear hps'
  go_enter Tryz.func48, Tryz.ntmps48
  go_wp2_with (first | (go_at_call 66; (with_reducible refine (HP.out _).mono ?_); rintro e w' ⟨rfl, hw⟩; rw [hw]; clear hw) | (go_at_call 74; (with_reducible refine hHS.out.mono ?_); rintro e w' ⟨rfl, hw⟩; rw [hw]; clear hw))
  generalize w.alloc (.cells (ps.map Value.string).toArray 9) = W1 at *
  go_loopw [4, 20] (fun v i wr => ∃ (k : Nat) (kl : List ByteArray), i = .int .i64 k ∧ k ≤ ps.length ∧ kl.length ≤ k ∧ Hid (OwnS W1.heap.size wr v kl) ∧ Hid (cleanL kl (ps.drop k) = cleanL [] ps) ∧ Hid (Chg [] W1 wr)) (fun _ i _ => ps.length - (intOf i).toNat)
  case atStart => exact ⟨0, [], rfl, by omega, by simp, Lib.hid (OwnS.nil _ _), Lib.hid rfl, Chg.refl _ _⟩
  case round =>
    obtain ⟨k, kl, rfl, hk, hkl, HO, HD, HC⟩ := hrel
    obtain ⟨A, cap, rfl⟩ := HO.out.form
    by_cases hlt : k < ps.length
    · have hlt2 : (k : Int) < (ps.length : Int) := by omega
      obtain ⟨x, hx⟩ : ∃ x, ps[k]? = some x := ⟨_, List.getElem?_eq_getElem hlt⟩
      have cell := (HBK.out.chg HC.out (by simp)).cell k (.string x) (by rw [List.getElem?_map, hx]; rfl)
      have hdr : ps.drop k = x :: ps.drop (k + 1) := by
        rw [List.drop_eq_getElem_cons hlt]
        congr 1
        exact (List.getElem?_eq_some_iff.1 hx).2
      have hD := HD.out
      rw [hdr] at hD
      have hD' : cleanL (stepC kl x (ps.drop (k + 1)).isEmpty) (ps.drop (k + 1)) = cleanL [] ps := hD
      have hla : (ps.drop (k + 1)).isEmpty = decide (k + 1 = ps.length) := by
        by_cases q : k + 1 = ps.length
        · rw [decide_eq_true q, q, List.drop_length]; rfl
        · rw [decide_eq_false q, List.isEmpty_eq_false_iff]
          intro h
          have := congrArg List.length h
          rw [List.length_drop] at this
          simp at this
          omega
      rw [hla] at hD'
      have HD2 := Lib.hid hD'
      clear hD hD' hla hdr HD hx
      unfold stepC at HD2
      cases e1 : (x.toList == [46])
      · cases e2 : (x.toList == [46, 46])
        · rw [e1, e2, if_neg (by decide), if_neg (by decide)] at HD2
          (obtain ⟨v5, w5, hr, ho, hg⟩ := run_pushS 22 W1.heap.size (wr.alloc (.cells #[.string x] 9)) (.slice A kl.length cap) kl x wr.heap.size (ownsRow_chg HO.out ((Chg.refl [] wr).alloc _)) (Blk.new _ _ _) (by first | omega | (simp; omega)) (by have := HC.out.size; simp; omega);
           have HO5 := Lib.hid ho;
           have HC5 := Lib.hid (Chg.grownOwn (HC.out.alloc (.cells #[.string x] 9)) (ownsRow_chg HO.out ((Chg.refl [] wr).alloc (.cells #[.string x] 9))) (Nat.le_refl _) hg);
           clear ho hg;
           go_wp2_with (at_builtin; refine wpList_appS rfl _ _ rfl _ _ rfl rfl v5 w5 hr ?_);
           go_roundw;
           case rel => exact ⟨k + 1, _, by go_num, by omega, by (first | omega | (rw [List.length_append, List.length_singleton]; omega) | (simp; omega)), HO5, HD2, HC5⟩;
           case measure => simp [intOf]; omega)
        · rw [e1, e2, if_neg (by decide), if_pos rfl] at HD2
          by_cases h0 : kl.length = 0
          · have hkl0 : kl = [] := List.eq_nil_of_length_eq_zero h0
            subst hkl0
            by_cases hq : k + 1 = ps.length
            · have q : ((k : Int) == (ps.length : Int) - 1) = true := beq_iff_eq.2 (by omega)
              rw [decide_eq_true hq, if_pos rfl] at HD2
              (obtain ⟨v5, w5, hr, ho, hg⟩ := run_pushS 22 W1.heap.size (wr.alloc (.cells #[.string ⟨#[]⟩] 9)) (.slice A 0 cap) [] ⟨#[]⟩ wr.heap.size (ownsRow_chg HO.out ((Chg.refl [] wr).alloc _)) (Blk.new _ _ _) (by first | omega | (simp; omega)) (by have := HC.out.size; simp; omega);
               have HO5 := Lib.hid ho;
               have HC5 := Lib.hid (Chg.grownOwn (HC.out.alloc (.cells #[.string ⟨#[]⟩] 9)) (ownsRow_chg HO.out ((Chg.refl [] wr).alloc (.cells #[.string ⟨#[]⟩] 9))) (Nat.le_refl _) hg);
               clear ho hg;
               go_wp2_with (at_builtin; refine wpList_appS rfl _ _ rfl _ _ rfl rfl v5 w5 hr ?_);
               go_roundw;
               case rel => exact ⟨k + 1, _, by go_num, by omega, by (first | omega | (rw [List.length_append, List.length_singleton]; omega) | (simp; omega)), HO5, HD2, HC5⟩;
               case measure => simp [intOf]; omega)
            · have q : ((k : Int) == (ps.length : Int) - 1) = false := beq_eq_false_iff_ne.2 (by omega)
              rw [decide_eq_false hq, if_neg (by decide)] at HD2
              go_wp2
              go_roundw
              case rel => exact ⟨k + 1, [], by go_num, by omega, by simp, HO, HD2, HC⟩
              case measure => simp [intOf]; omega
          · obtain ⟨u, hcut, hou⟩ := HO.out.cut (by omega)
            have hp0 : (0 : Int) < (kl.length : Int) := by omega
            have HOU := Lib.hid hou
            have hdl : kl.dropLast.length = kl.length - 1 := List.length_dropLast
            clear hou
            by_cases hq : k + 1 = ps.length
            · have q : ((k : Int) == (ps.length : Int) - 1) = true := beq_iff_eq.2 (by omega)
              rw [decide_eq_true hq, if_pos rfl] at HD2
              (obtain ⟨v5, w5, hr, ho, hg⟩ := run_pushS 22 W1.heap.size (wr.alloc (.cells #[.string ⟨#[]⟩] 9)) u kl.dropLast ⟨#[]⟩ wr.heap.size (ownsRow_chg HOU.out ((Chg.refl [] wr).alloc _)) (Blk.new _ _ _) (by first | omega | (simp; omega)) (by have := HC.out.size; simp; omega);
               have HO5 := Lib.hid ho;
               have HC5 := Lib.hid (Chg.grownOwn (HC.out.alloc (.cells #[.string ⟨#[]⟩] 9)) (ownsRow_chg HOU.out ((Chg.refl [] wr).alloc (.cells #[.string ⟨#[]⟩] 9))) (Nat.le_refl _) hg);
               clear ho hg;
               go_wp2_with (at_builtin; refine wpList_appS rfl _ _ rfl _ _ rfl rfl v5 w5 hr ?_);
               go_roundw;
               case rel => exact ⟨k + 1, _, by go_num, by omega, by (first | omega | (rw [List.length_append, List.length_singleton]; omega) | (simp; omega)), HO5, HD2, HC5⟩;
               case measure => simp [intOf]; omega)
            · have q : ((k : Int) == (ps.length : Int) - 1) = false := beq_eq_false_iff_ne.2 (by omega)
              rw [decide_eq_false hq, if_neg (by decide)] at HD2
              go_wp2
              go_roundw
              case rel => exact ⟨k + 1, kl.dropLast, by go_num, by omega, by omega, HOU, HD2, HC⟩
              case measure => simp [intOf]; omega
      · have e2 : (x.toList == [46, 46]) = false := by
          rw [beq_iff_eq.1 e1]; rfl
        rw [e1, if_pos rfl] at HD2
        by_cases hq : k + 1 = ps.length
        · have q : ((k : Int) == (ps.length : Int) - 1) = true := beq_iff_eq.2 (by omega)
          rw [decide_eq_true hq, if_pos rfl] at HD2
          (obtain ⟨v5, w5, hr, ho, hg⟩ := run_pushS 22 W1.heap.size (wr.alloc (.cells #[.string ⟨#[]⟩] 9)) (.slice A kl.length cap) kl ⟨#[]⟩ wr.heap.size (ownsRow_chg HO.out ((Chg.refl [] wr).alloc _)) (Blk.new _ _ _) (by first | omega | (simp; omega)) (by have := HC.out.size; simp; omega);
           have HO5 := Lib.hid ho;
           have HC5 := Lib.hid (Chg.grownOwn (HC.out.alloc (.cells #[.string ⟨#[]⟩] 9)) (ownsRow_chg HO.out ((Chg.refl [] wr).alloc (.cells #[.string ⟨#[]⟩] 9))) (Nat.le_refl _) hg);
           clear ho hg;
           go_wp2_with (at_builtin; refine wpList_appS rfl _ _ rfl _ _ rfl rfl v5 w5 hr ?_);
           go_roundw;
           case rel => exact ⟨k + 1, _, by go_num, by omega, by (first | omega | (rw [List.length_append, List.length_singleton]; omega) | (simp; omega)), HO5, HD2, HC5⟩;
           case measure => simp [intOf]; omega)
        · have q : ((k : Int) == (ps.length : Int) - 1) = false := beq_eq_false_iff_ne.2 (by omega)
          rw [decide_eq_false hq, if_neg (by decide)] at HD2
          go_wp2
          go_roundw
          case rel => exact ⟨k + 1, kl, by go_num, by omega, by omega, HO, HD2, HC⟩
          case measure => simp [intOf]; omega
    · obtain rfl : k = ps.length := by omega
      have hR : kl = cleanL [] ps := by
        have := HD.out
        rw [List.drop_length] at this
        exact this
      rw [← hR] at HL HM HCB
      have hjl : (Lib.join (kl.map (·.data.toList)) [47]).length ≤ 140737488355328 := by
        have h1 := inter_len [47] 8192 (kl.map (·.data.toList)) (by
          intro y hy
          obtain ⟨z, hz, rfl⟩ := List.mem_map.1 hy
          have := HM.out z hz
          rw [toList_len]
          exact this)
        rw [List.length_map] at h1
        have h2 := HL.out
        have h3 : kl.length * (8192 + ([47] : List UInt8).length) ≤ 8193 * 8193 := Nat.mul_le_mul h2 (Nat.le_refl _)
        omega
      have HJL := Lib.hid hjl
      clear hR HD hjl
      by_cases h0 : kl.length = 0
      · have hkl0 : kl = [] := List.eq_nil_of_length_eq_zero h0
        subst hkl0
        have HJ := Lib.hid (fun w => Tryz.strings_Join_none A cap ⟨#[47]⟩ w)
        have hcb : CB = ⟨#[47]⟩ ++ ⟨#[]⟩ := HCB.out
        have HCB2 := Lib.hid hcb
        clear hcb
        go_wp2_with (go_at_call 50; (with_reducible refine (HJ.out _).mono ?_); rintro e w' ⟨rfl, hw⟩; rw [hw]; clear hw)
        go_ret2
        exact ⟨by rw [HCB2.out]; rfl, HC1.out.trans HC.out (by simp)⟩
      · obtain ⟨g, cap', e, h4, h5, h6⟩ := HO.out.read (by omega)
        injection e with e e3 e4
        subst e e4
        have HJ := Lib.hid (Tryz.strings_Join g 0 cap kl ⟨#[47]⟩ wr (fun j y hy => by rw [Nat.zero_add]; exact h6 j y hy) h5 (by omega) h4 HJL.out)
        rw [show (⟨#[47]⟩ : ByteArray).data.toList = [47] from rfl] at HJ
        have hsz : ¬ (9223372036854775807 < (⟨#[47]⟩ : ByteArray).size + (⟨(Lib.join (kl.map (·.data.toList)) [47]).toArray⟩ : ByteArray).size) := by
          have := HJL.out
          show ¬ (9223372036854775807 < 1 + (Lib.join (kl.map (·.data.toList)) [47]).length)
          omega
        generalize (⟨(Lib.join (kl.map (·.data.toList)) [47]).toArray⟩ : ByteArray) = J at *
        clear h6
        go_wp2_with fail
        refine HJ.out.mono ?_
        rintro e w2 ⟨rfl, H2⟩
        go_wp2
        go_ret2
        exact ⟨by rw [HCB.out]; rfl, (HC1.out.trans HC.out (by simp)).trans (Chg.of_below H2) (by simp)⟩
theorem clean_any (s : ByteArray) (w : World) (hE : Hid (Env w)) (c : ByteArray) (g : Int) (hz : cleanF s = (c, g)) :
    Calls Tryz.prog 48 #[.string s] w fun o w' => o = .returned (.tuple #[.string c, .int .i64 g]) ∧ Hid (Chg [] w w') := by
  unfold cleanF at hz
  cases hp : Lib.hasPrefix s.data.toList [47]
  · rw [if_pos hp] at hz
    obtain ⟨q1, q2⟩ := Prod.mk.inj hz
    subst q1 q2
    have HP := Lib.hid (fun w => Tryz.strings_HasPrefix s ⟨#[47]⟩ w)
    rw [show (⟨#[47]⟩ : ByteArray).data.toList = [47] from rfl, hp] at HP
    clear hz hp
    go_enter Tryz.func48, Tryz.ntmps48
    go_wp2_with (go_at_call 66; (with_reducible refine (HP.out _).mono ?_); rintro e w' ⟨rfl, hw⟩; rw [hw]; clear hw)
    go_ret2
    exact ⟨rfl, Chg.refl _ _⟩
  · rw [if_neg (by rw [hp]; decide)] at hz
    by_cases h8 : 8192 < s.size
    · rw [if_pos h8] at hz
      obtain ⟨q1, q2⟩ := Prod.mk.inj hz
      subst q1 q2
      have h2 : (8192 : Int) < (s.size : Int) := by omega
      have HP := Lib.hid (fun w => Tryz.strings_HasPrefix s ⟨#[47]⟩ w)
      rw [show (⟨#[47]⟩ : ByteArray).data.toList = [47] from rfl, hp] at HP
      clear hz hp
      go_enter Tryz.func48, Tryz.ntmps48
      go_wp2_with (go_at_call 66; (with_reducible refine (HP.out _).mono ?_); rintro e w' ⟨rfl, hw⟩; rw [hw]; clear hw)
      go_ret2
      exact ⟨rfl, Chg.refl _ _⟩
    · rw [if_neg h8] at hz
      obtain ⟨q1, q2⟩ := Prod.mk.inj hz
      subst q1 q2
      refine clean_walk s w hE ?_ (by omega) hp
      unfold Lib.hasPrefix at hp
      cases hl : s.data.toList with
      | nil => rw [hl] at hp; simp [List.isPrefixOf] at hp
      | cons c r =>
        have := toList_len s
        rw [hl, List.length_cons] at this
        omega
end Go.Proofs.YtjndgkbikhndoaaGreatDoor

namespace Go.Proofs.YtjndgkbikhndoaaGreatDoor
open Go.RowKit Go.ChangeShapes Go.WideShapes
set_option linter.unusedVariables false

def mk (l : List UInt8) : ByteArray := ⟨l.toArray⟩
theorem mk_list (l : List UInt8) : (mk l).data.toList = l := rfl
theorem mk_eq {s : ByteArray} {l : List UInt8} (h : s.data.toList = l) : s = mk l := by
  cases s with
  | mk d =>
    unfold mk
    rw [← h]
/-- The parts between the slashes, as one goes. -/
def partsL : List UInt8 → List UInt8 → List (List UInt8)
  | cur, [] => [cur]
  | cur, c :: l => if c = 47 then cur :: partsL [] l else partsL (cur ++ [c]) l
theorem partsL_sl (cur l : List UInt8) : partsL cur (47 :: l) = cur :: partsL [] l := by
  rw [partsL.eq_def]
  simp
theorem partsL_no {cur l : List UInt8} {c : UInt8} (h : c ≠ 47) : partsL cur (c :: l) = partsL (cur ++ [c]) l := by
  rw [partsL.eq_def]
  simp [h]
theorem partsL_idx : ∀ (l cur : List UInt8), (Lib.indexByte l 47 = -1 → partsL cur l = [cur ++ l]) ∧ (∀ i : Nat, Lib.indexByte l 47 = i → partsL cur l = (cur ++ l.take i) :: partsL [] (l.drop (i + 1)))
  | [], cur => by
    refine ⟨fun _ => by rw [List.append_nil]; rfl, fun i h => ?_⟩
    unfold Lib.indexByte at h
    omega
  | c :: l, cur => by
    by_cases hc : c = 47
    · subst hc
      have hi : Lib.indexByte (47 :: l) 47 = 0 := by
        unfold Lib.indexByte
        rfl
      rw [hi, partsL_sl]
      refine ⟨fun h => by omega, fun i h => ?_⟩
      obtain rfl : i = 0 := by omega
      rw [List.take_zero, List.append_nil]
      rfl
    · have hb : ¬ (c == 47) = true := fun k => hc (beq_iff_eq.1 k)
      have ih := partsL_idx l (cur ++ [c])
      have hge := Lib.indexByte_ge l 47
      unfold Lib.indexByte
      rw [if_neg hb, partsL_no hc]
      by_cases hm : (Lib.indexByte l 47 == -1) = true
      · rw [if_pos hm]
        refine ⟨fun _ => ?_, fun i h => by omega⟩
        rw [ih.1 (beq_iff_eq.1 hm), List.append_assoc]
        rfl
      · rw [if_neg hm]
        have hne : Lib.indexByte l 47 ≠ -1 := fun e => hm (beq_iff_eq.2 e)
        refine ⟨fun h => by omega, fun i h => ?_⟩
        obtain ⟨j, rfl⟩ : ∃ j, i = j + 1 := ⟨i - 1, by omega⟩
        rw [ih.2 j (by omega), List.take_succ_cons, List.drop_succ_cons, List.append_assoc]
        rfl
theorem splitK_parts : ∀ (k : Nat) (l : List UInt8), Lib.count l [47] = k → Lib.splitK [47] 0 k l = partsL [] l
  | 0, l, h => by
    have hm : Lib.index l [47] = -1 := by
      have hge := Lib.index_ge l [47]
      by_cases q : Lib.index l [47] = -1
      · exact q
      · obtain ⟨i, hi⟩ : ∃ i : Nat, Lib.index l [47] = i := ⟨(Lib.index l [47]).toNat, by omega⟩
        rw [Lib.count_hit (by simp) hi] at h
        omega
    rw [Lib.index_one] at hm
    rw [(partsL_idx l []).1 hm]
    rfl
  | k + 1, l, h => by
    have hge := Lib.index_ge l [47]
    by_cases q : Lib.index l [47] = -1
    · rw [Lib.count_miss q] at h
      omega
    · obtain ⟨i, hi⟩ : ∃ i : Nat, Lib.index l [47] = i := ⟨(Lib.index l [47]).toNat, by omega⟩
      have hc := Lib.count_hit (sub := [47]) (by simp) hi
      rw [h] at hc
      have ih := splitK_parts k (l.drop (i + 1)) (by have : ([47] : List UInt8).length = 1 := rfl; rw [this] at hc; omega)
      unfold Lib.splitK
      rw [if_neg (fun e => q (beq_iff_eq.1 e)), hi, Int.toNat_natCast]
      rw [Lib.index_one] at hi
      rw [(partsL_idx l []).2 i hi, List.nil_append]
      show l.take (i + 0) :: Lib.splitK [47] 0 k (l.drop (i + 1)) = _
      rw [Nat.add_zero, ih]
theorem parts_eq (s : ByteArray) : partsB s = (partsL [] s.data.toList).map mk := by
  have h := Lib.splitB_data ⟨#[47]⟩ 0 (Lib.countB s ⟨#[47]⟩) s
  rw [show (⟨#[47]⟩ : ByteArray).data.toList = [47] from rfl, splitK_parts _ _ rfl] at h
  have h2 : (partsB s).map (·.data.toList) = partsL [] s.data.toList := h
  rw [← h2, List.map_map]
  have : ∀ x : ByteArray, (mk ∘ fun x => x.data.toList) x = x := fun x => (mk_eq rfl).symm
  rw [List.map_congr_left (fun x _ => this x), List.map_id']
theorem partsL_free : ∀ (l cur : List UInt8), 47 ∉ cur → ∀ y ∈ partsL cur l, 47 ∉ y
  | [], cur, h, y, hy => by
    rw [show partsL cur [] = [cur] from rfl, List.mem_singleton] at hy
    rw [hy]; exact h
  | c :: l, cur, h, y, hy => by
    by_cases hc : c = 47
    · subst hc
      rw [partsL_sl] at hy
      rcases List.mem_cons.1 hy with e | e
      · rw [e]; exact h
      · exact partsL_free l [] (by simp) y e
    · rw [partsL_no hc] at hy
      exact partsL_free l _ (by
        intro k
        rcases List.mem_append.1 k with k | k
        · exact h k
        · exact hc (List.mem_singleton.1 k).symm) y hy
def tot (xs : List ByteArray) : Nat := (xs.map (fun x => x.data.toList.length + 1)).sum
theorem tot_app (a b : List ByteArray) : tot (a ++ b) = tot a + tot b := by
  unfold tot
  rw [List.map_append, List.sum_append]
theorem tot_one (x : ByteArray) : tot [x] = x.data.toList.length + 1 := by simp [tot]
theorem tot_drop (a : List ByteArray) : tot a.dropLast ≤ tot a := by
  rcases List.eq_nil_or_concat a with rfl | ⟨b, x, rfl⟩
  · exact Nat.le_refl _
  · rw [List.concat_eq_append, List.dropLast_concat, tot_app]
    omega
theorem tot_parts : ∀ (l cur : List UInt8), tot ((partsL cur l).map mk) = cur.length + l.length + 1
  | [], cur => by
    rw [show partsL cur [] = [cur] from rfl, List.map_singleton, tot_one, mk_list]
    simp
  | c :: l, cur => by
    by_cases hc : c = 47
    · subst hc
      rw [partsL_sl, List.map_cons, show ∀ (x : ByteArray) (r : List ByteArray), x :: r = [x] ++ r from fun _ _ => rfl, tot_app, tot_one, mk_list, tot_parts l []]
      simp
      omega
    · rw [partsL_no hc, tot_parts l (cur ++ [c]), List.length_append, List.length_cons]
      simp
      omega
theorem stepC_tot (kept : List ByteArray) (x : ByteArray) (b : Bool) : tot (stepC kept x b) ≤ tot kept + (x.data.toList.length + 1) := by
  unfold stepC
  have h0 : ((⟨#[]⟩ : ByteArray).data.toList.length) = 0 := rfl
  have hd := tot_drop kept
  split
  · split
    · rw [tot_app, tot_one, h0]
      omega
    · omega
  · split
    · split
      · rw [tot_app, tot_one, h0]
        omega
      · omega
    · rw [tot_app, tot_one]
      omega
theorem cleanL_tot : ∀ (l kept : List ByteArray), tot (cleanL kept l) ≤ tot kept + tot l
  | [], kept => Nat.le_refl _
  | x :: r, kept => by
    have h1 := cleanL_tot r (stepC kept x r.isEmpty)
    have h2 := stepC_tot kept x r.isEmpty
    have h3 : tot (x :: r) = x.data.toList.length + 1 + tot r := by
      rw [show x :: r = [x] ++ r from rfl, tot_app, tot_one]
    show tot (cleanL (stepC kept x r.isEmpty) r) ≤ _
    omega
theorem join_tot : ∀ (xs : List ByteArray), xs ≠ [] → (Lib.join (xs.map (·.data.toList)) [47]).length + 1 = tot xs
  | [x], _ => by
    rw [tot_one]
    simp [Lib.join]
  | x :: y :: r, _ => by
    have ih := join_tot (y :: r) (by simp)
    rw [show x :: y :: r = [x] ++ (y :: r) from rfl, tot_app, tot_one, ← ih]
    unfold Lib.join
    rw [List.singleton_append, List.map_cons, List.map_cons, List.intercalate_cons_cons, List.length_append, List.length_append]
    simp
    omega
/-- A part that is no dots. -/
def noDots (y : ByteArray) : Prop := (y.toList == [46]) = false ∧ (y.toList == [46, 46]) = false ∧ 47 ∉ y.data.toList
theorem cleanL_good (s : ByteArray) : ∀ y ∈ cleanL [] (partsB s), noDots y := by
  refine cleanL_all (P := noDots) (by unfold noDots; rw [Lib.toList_data]; exact ⟨rfl, rfl, by simp⟩) (partsB s) [] (by simp) (fun y hy h1 h2 => ⟨h1, h2, ?_⟩)
  rw [parts_eq] at hy
  obtain ⟨l, hl, rfl⟩ := List.mem_map.1 hy
  exact partsL_free _ [] (by simp) l hl
theorem stepC_good {kept : List ByteArray} {x : ByteArray} {b : Bool} (h : noDots x) : stepC kept x b = kept ++ [x] := by
  unfold stepC
  rw [if_neg (by rw [h.1]; decide), if_neg (by rw [h.2.1]; decide)]
theorem cleanL_id : ∀ (l kept : List ByteArray), (∀ y ∈ l, noDots y) → cleanL kept l = kept ++ l
  | [], kept, _ => (List.append_nil _).symm
  | x :: r, kept, h => by
    show cleanL (stepC kept x r.isEmpty) r = _
    rw [stepC_good (h x List.mem_cons_self), cleanL_id r _ (fun y hy => h y (List.mem_cons_of_mem _ hy)), List.append_assoc]
    rfl
theorem partsL_app : ∀ (x cur l : List UInt8), 47 ∉ x → partsL cur (x ++ l) = partsL (cur ++ x) l
  | [], cur, l, _ => by rw [List.nil_append, List.append_nil]
  | c :: x, cur, l, h => by
    rw [List.cons_append, partsL_no (fun e => h (by rw [e]; exact List.mem_cons_self)), partsL_app x _ l (fun k => h (List.mem_cons_of_mem _ k)), List.append_assoc]
    rfl
theorem parts_join : ∀ (xs : List (List UInt8)), xs ≠ [] → (∀ y ∈ xs, 47 ∉ y) → partsL [] (Lib.join xs [47]) = xs
  | [x], _, h => by
    have := partsL_app x [] [] (h x List.mem_cons_self)
    rw [List.append_nil, List.nil_append] at this
    simp only [Lib.join, List.intercalate_singleton]
    rw [this]
    rfl
  | x :: y :: r, _, h => by
    have ih := parts_join (y :: r) (by simp) (fun z hz => h z (List.mem_cons_of_mem _ hz))
    unfold Lib.join at ih ⊢
    rw [List.intercalate_cons_cons, List.append_assoc, partsL_app x [] _ (h x List.mem_cons_self), List.nil_append]
    rw [show ([47] : List UInt8) ++ List.intercalate [47] (y :: r) = 47 :: List.intercalate [47] (y :: r) from rfl, partsL_sl, ih]
/-- What Clean leaves of a path's text behind the first slash. -/
def keptB (r : ByteArray) : List ByteArray := cleanL [] (partsB r)
theorem cleanB_list (r : ByteArray) : (cleanB r).data.toList = 47 :: Lib.join ((keptB r).map (·.data.toList)) [47] := by
  unfold cleanB keptB
  rw [ByteArray.data_append, Array.toList_append]
  rfl
theorem parts_clean (r : ByteArray) : (partsL [] (Lib.join ((keptB r).map (·.data.toList)) [47])).map mk = if keptB r = [] then [⟨#[]⟩] else keptB r := by
  have hg := cleanL_good r
  have hk : keptB r = cleanL [] (partsB r) := rfl
  rw [← hk] at hg
  generalize keptB r = K at *
  by_cases h : K = []
  · subst h
    rfl
  · rw [if_neg h, parts_join _ (fun k => h (by simpa using k)) (fun y hy => by
      obtain ⟨z, hz, rfl⟩ := List.mem_map.1 hy
      exact (hg z hz).2.2), List.map_map]
    have : ∀ x : ByteArray, (mk ∘ fun x => x.data.toList) x = x := fun x => (mk_eq rfl).symm
    rw [List.map_congr_left (fun x _ => this x), List.map_id']
theorem ext_tail (s : ByteArray) : (s.extract 1 s.size).data.toList = s.data.toList.drop 1 := by
  rw [ByteArray.data_extract, Array.toList_extract, List.extract_eq_take_drop]
  refine List.take_of_length_le ?_
  rw [List.length_drop, toList_len]
  omega
theorem empty_good : noDots ⟨#[]⟩ := by
  unfold noDots
  rw [Lib.toList_data]
  exact ⟨rfl, rfl, by simp⟩
theorem cleanF_again {s a : ByteArray} (h : cleanF s = (a, 0)) : cleanF a = (a, 0) ∧ a.size ≤ s.size + 1 ∧ (∀ y ∈ partsL [] (a.data.toList.drop 1), noDots (mk y)) ∧ s.size ≤ 8192 := by
  unfold cleanF at h
  split at h
  · cases (Prod.mk.inj h).2
  · rename_i hp
    split at h
    · cases (Prod.mk.inj h).2
    · rename_i h8
      have ha := (Prod.mk.inj h).1
      have h1 : 1 ≤ s.size := by
        have hp : Lib.hasPrefix s.data.toList [47] = true := by simpa using hp
        unfold Lib.hasPrefix at hp
        cases hl : s.data.toList with
        | nil => rw [hl] at hp; simp [List.isPrefixOf] at hp
        | cons c r =>
          have := toList_len s
          rw [hl, List.length_cons] at this
          omega
      have hRl : (s.extract 1 s.size).data.toList.length = s.size - 1 := by rw [ext_tail, List.length_drop, toList_len]
      have hal := cleanB_list (s.extract 1 s.size)
      have hpc := parts_clean (s.extract 1 s.size)
      have hgood := cleanL_good (s.extract 1 s.size)
      have htot := cleanL_tot (partsB (s.extract 1 s.size)) []
      rw [parts_eq, tot_parts, hRl] at htot
      have hk : keptB (s.extract 1 s.size) = cleanL [] (partsB (s.extract 1 s.size)) := rfl
      rw [← parts_eq, ← hk] at htot
      rw [← hk] at hgood
      rw [ha] at hal
      generalize keptB (s.extract 1 s.size) = K at *
      have has : a.size ≤ s.size := by
        rw [← toList_len, hal, List.length_cons]
        by_cases hK : K = []
        · subst hK
          show 0 + 1 ≤ _
          omega
        · rw [join_tot K hK]
          have : tot ([] : List ByteArray) = 0 := rfl
          simp at htot
          omega
      have hdr : a.data.toList.drop 1 = Lib.join (K.map (·.data.toList)) [47] := by rw [hal]; rfl
      refine ⟨?_, by omega, ?_, by omega⟩
      · unfold cleanF
        rw [if_neg (by rw [hal]; simp [Lib.hasPrefix]), if_neg (by omega)]
        refine congrArg (fun x => (x, (0 : Int))) ?_
        refine (mk_eq ?_).trans (mk_eq rfl).symm
        rw [cleanB_list, hal]
        unfold keptB
        rw [parts_eq, ext_tail, hdr, hpc]
        by_cases hK : K = []
        · subst hK
          rw [if_pos rfl, cleanL_id [⟨#[]⟩] [] (fun y hy => by rw [List.mem_singleton.1 hy]; exact empty_good)]
          rfl
        · rw [if_neg hK, cleanL_id K [] hgood]
          rfl
      · intro y hy
        rw [hdr] at hy
        have := List.mem_map_of_mem (f := mk) hy
        rw [hpc] at this
        by_cases hK : K = []
        · rw [if_pos hK, List.mem_singleton] at this
          rw [this]
          exact empty_good
        · rw [if_neg hK] at this
          exact hgood _ this
end Go.Proofs.YtjndgkbikhndoaaGreatDoor

namespace Go.Proofs.YtjndgkbikhndoaaGreatDoor
open Go.RowKit Go.ChangeShapes Go.WideShapes
set_option linter.unusedVariables false

/-- In the midst of the reference's Clean, before place k. -/
def RInv (KB : List ByteArray) (S : List UInt8) (k : Nat) (kl : List ByteArray) (cur : List UInt8) : Prop :=
  (k ≤ S.length → cleanL kl ((partsL cur (S.drop k)).map mk) = KB) ∧ (k = S.length + 1 → kl = KB)
theorem RInv.char {KB : List ByteArray} {S : List UInt8} {k : Nat} {kl : List ByteArray} {cur : List UInt8} {c : UInt8} (h : RInv KB S k kl cur) (hc : S[k]? = some c) (h47 : c ≠ 47) : RInv KB S (k + 1) kl (cur ++ [c]) := by
  have hk := (List.getElem?_eq_some_iff.1 hc).1
  have := h.1 (by omega)
  rw [drop_get hc, partsL_no h47] at this
  exact ⟨fun _ => this, fun e => by omega⟩
theorem partsL_ne (cur l : List UInt8) : partsL cur l ≠ [] := by
  intro h
  have := tot_parts l cur
  rw [h] at this
  simp [tot] at this
theorem RInv.flush {KB : List ByteArray} {S : List UInt8} {k : Nat} {kl : List ByteArray} {cur : List UInt8} (h : RInv KB S k kl cur) (hc : S[k]? = some 47) : RInv KB S (k + 1) (stepC kl (mk cur) false) [] := by
  have hk := (List.getElem?_eq_some_iff.1 hc).1
  have := h.1 (by omega)
  rw [drop_get hc, partsL_sl, List.map_cons] at this
  have e : ((partsL [] (S.drop (k + 1))).map mk).isEmpty = false := by
    rw [List.isEmpty_eq_false_iff]
    intro q
    exact partsL_ne [] _ (List.map_eq_nil_iff.1 q)
  have this : cleanL (stepC kl (mk cur) ((partsL [] (S.drop (k + 1))).map mk).isEmpty) ((partsL [] (S.drop (k + 1))).map mk) = KB := this
  rw [e] at this
  exact ⟨fun _ => this, fun e => by omega⟩
theorem RInv.fin {KB : List ByteArray} {S : List UInt8} {k : Nat} {kl : List ByteArray} {cur : List UInt8} (h : RInv KB S k kl cur) (hk : k = S.length) : RInv KB S (k + 1) (stepC kl (mk cur) true) [] := by
  have := h.1 (by omega)
  rw [hk, List.drop_length] at this
  have this : stepC kl (mk cur) true = KB := this
  exact ⟨fun q => by omega, fun _ => this⟩
theorem slice_run2 (s : ByteArray) (k : Nat) (c : UInt8) (h : s.data.toList[k]? = some c) : ∀ w, (Instr.slice 9 (.string s) (some (.int .i64 (k : Int))) (some (.int .i64 ((k : Int) + 1))) none).run Tryz.prog w = .ok (.string (mk [c])) w := by
  intro w
  have hk := (List.getElem?_eq_some_iff.1 h).1
  rw [toList_len] at hk
  have := slice_run s k (k + 1) w (by omega) (by omega)
  rw [one_text s k c h] at this
  exact this
theorem join_take (xs : List (List UInt8)) (j : Nat) (x : List UInt8) (h : xs[j]? = some x) : Lib.join (xs.take (j + 1)) [47] = Lib.join (xs.take j) [47] ++ (if 0 < j then [47] else []) ++ x := by
  have hj := (List.getElem?_eq_some_iff.1 h).1
  rw [List.take_add_one, h]
  have gen : ∀ (ys : List (List UInt8)), Lib.join (ys ++ [x]) [47] = Lib.join ys [47] ++ (if 0 < ys.length then [47] else []) ++ x := by
    intro ys
    induction ys with
    | nil => simp [Lib.join]
    | cons y r ih =>
      cases r with
      | nil => simp [Lib.join]
      | cons z r =>
        unfold Lib.join at ih ⊢
        rw [List.cons_append, List.cons_append, List.intercalate_cons_cons, List.intercalate_cons_cons]
        rw [List.cons_append] at ih
        rw [ih]
        simp
  have := gen (xs.take j)
  rw [List.length_take, Nat.min_eq_left (by omega)] at this
  exact this
set_option maxHeartbeats 8000000 in
set_option maxRecDepth 100000 in
theorem rclean_walk (s : ByteArray) (w : World) (h1 : 1 ≤ s.size) (h8 : s.size ≤ 8192) (hp : (s[0]'(by omega)).toNat = 47) :
    Calls Tryz.prog 84 #[.string s] w fun o w' => o = .returned (.tuple #[.string (cleanB (s.extract 1 s.size)), .int .i64 0]) ∧ Hid (Chg [] w w') := by
  have h2 : ¬ (8192 : Int) < (s.size : Int) := by omega
  have he : s.toList.isEmpty = false := by
    rw [Lib.toList_data, List.isEmpty_eq_false_iff]
    intro q
    have := toList_len s
    rw [q] at this
    simp at this
    omega
  have hp2 : ((s[0]'(by omega)).toNat : Int) = 47 := by omega
  have hlen := toList_len s
  obtain ⟨KB, hKB⟩ : ∃ KB, keptB (s.extract 1 s.size) = KB := ⟨_, rfl⟩
  have HR0 : Hid (RInv KB s.data.toList 1 [] []) := Lib.hid ⟨fun _ => by
    have : KB = cleanL [] (partsB (s.extract 1 s.size)) := hKB.symm
    rw [this, parts_eq, ext_tail], fun e => by omega⟩
  have HCB := cleanB_list (s.extract 1 s.size)
  rw [hKB] at HCB
  have HKL := Lib.hid (show KB.length ≤ 8193 from by
    rw [← hKB]
    unfold keptB
    refine Nat.le_trans (cleanL_len _ []) ?_
    have q1 := parts_len (s.extract 1 s.size)
    have q2 := count_le (s.extract 1 s.size)
    have q3 : (s.extract 1 s.size).size ≤ 8192 := by
      rw [← toList_len, ext_tail, List.length_drop, toList_len]
      omega
    simp
    omega)
  have HKT := Lib.hid (show tot KB ≤ 8193 from by
    rw [← hKB]
    unfold keptB
    refine Nat.le_trans (cleanL_tot _ []) ?_
    rw [parts_eq, tot_parts, ext_tail, List.length_drop, toList_len]
    show 0 + (0 + (s.size - 1) + 1) ≤ 8193
    omega)
  have HCBH := Lib.hid HCB
  clear HCB hKB
  generalize cleanB (s.extract 1 s.size) = CB at *
  have hs3 : (s.size : Int) ≤ 8192 := by omega
  have HLEN := Lib.hid hlen
  clear hlen hp
  go_enter Tryz.func84, Tryz.ntmps84
  go_wp2
  go_loopw [4, 5, 6] (fun v pt i wr => ∃ (k : Nat) (kl : List ByteArray) (t : ByteArray) (cur : List UInt8), i = .int .i64 k ∧ pt = .string t ∧ 1 ≤ k ∧ k ≤ s.size + 1 ∧ kl.length ≤ k ∧ cur.length ≤ k ∧ Hid (t.data.toList = cur) ∧ Hid (OwnS w.heap.size wr v kl) ∧ Hid (RInv KB s.data.toList k kl cur) ∧ Hid (Chg [] w wr)) (fun _ _ i _ => s.size + 1 - (intOf i).toNat)
  case atStart => exact ⟨1, [], ⟨#[]⟩, [], rfl, rfl, by omega, by omega, by simp, by simp, Lib.hid rfl, Lib.hid (OwnS.nil _ _), HR0, Chg.refl _ _⟩
  case round =>
    obtain ⟨k, kl, t, cur, rfl, rfl, hk1, hk, hkl, hcl, HT, HO, HR, HC⟩ := hrel
    obtain ⟨A, cap, rfl⟩ := HO.out.form
    have hts : t.size ≤ 8193 := by rw [← toList_len, HT.out]; omega
    by_cases hle : k ≤ s.size
    · have hle2 : (k : Int) ≤ (s.size : Int) := by omega
      by_cases hlt : k < s.size
      · have hlt2 : (k : Int) < (s.size : Int) := by omega
        have hnl : ((k : Int) == (s.size : Int)) = false := beq_eq_false_iff_ne.2 (by omega)
        have hcl' := toList_get s k hlt
        obtain ⟨c, hc⟩ : ∃ c, s[k]'hlt = c := ⟨_, rfl⟩
        rw [hc] at hcl'
        by_cases h47 : c = 47
        · subst h47
          have HN : Hid (∀ kl', stepC kl t false = kl' → RInv KB s.data.toList (k + 1) kl' []) := Lib.hid (fun kl' e => by
            rw [← e, mk_eq HT.out]
            exact HR.out.flush hcl')
          clear hcl' HR
          (cases e1 : (t.toList == [46]);
           · (cases e2 : (t.toList == [46, 46]);
              · (have HE := Lib.hid (show stepC kl t false = kl ++ [t] from by unfold stepC; rw [e1, e2, if_neg (by decide), if_neg (by decide)]);
                 (obtain ⟨v5, w5, hr, ho, hg⟩ := run_pushS 22 w.heap.size (wr.alloc (.cells #[.string t] 9)) (.slice A kl.length cap) kl t wr.heap.size (ownsRow_chg HO.out ((Chg.refl [] wr).alloc _)) (Blk.new _ _ _) (by first | omega | (simp; omega)) (by have := HC.out.size; simp; omega);
                  have HO5 := Lib.hid ho;
                  have HC5 := Lib.hid (Chg.grownOwn (HC.out.alloc (.cells #[.string t] 9)) (ownsRow_chg HO.out ((Chg.refl [] wr).alloc (.cells #[.string t] 9))) (Nat.le_refl _) hg);
                  clear ho hg;
                  go_wp2_with (at_builtin; refine wpList_appS rfl _ _ rfl _ _ rfl rfl v5 w5 hr ?_);
                  go_roundw;
                  case rel => exact ⟨k + 1, _, ⟨#[]⟩, [], by go_num, rfl, by omega, by omega, by (first | omega | (rw [List.length_append, List.length_singleton]; omega) | (simp; omega)), by simp, Lib.hid rfl, HO5, Lib.hid (HN.out _ HE.out), HC5⟩;
                  case measure => simp [intOf]; omega))
              · (by_cases h0 : kl.length = 0;
                 · (have hkl0 : kl = [] := List.eq_nil_of_length_eq_zero h0;
                    subst hkl0;
                    have HE := Lib.hid (show stepC [] t false = [] from by unfold stepC; rw [e1, e2, if_neg (by decide), if_pos rfl]; rfl);
                    (go_wp2;
                     go_roundw;
                     case rel => exact ⟨k + 1, [], ⟨#[]⟩, [], by go_num, rfl, by omega, by omega, by (first | omega | (simp; omega)), by simp, Lib.hid rfl, HO, Lib.hid (HN.out _ HE.out), HC⟩;
                     case measure => simp [intOf]; omega))
                 · (obtain ⟨u, hcut, hou⟩ := HO.out.cut (by omega);
                    have hp0 : (0 : Int) < (kl.length : Int) := by omega;
                    have HOU := Lib.hid hou;
                    have hdl : kl.dropLast.length = kl.length - 1 := List.length_dropLast;
                    have HE := Lib.hid (show stepC kl t false = kl.dropLast from by unfold stepC; rw [e1, e2, if_neg (by decide), if_pos rfl]; rfl);
                    clear hou;
                    (go_wp2;
                     go_roundw;
                     case rel => exact ⟨k + 1, kl.dropLast, ⟨#[]⟩, [], by go_num, rfl, by omega, by omega, by (first | omega | (simp; omega)), by simp, Lib.hid rfl, HOU, Lib.hid (HN.out _ HE.out), HC⟩;
                     case measure => simp [intOf]; omega))))
           · (have e2 : (t.toList == [46, 46]) = false := by (rw [beq_iff_eq.1 e1]; rfl);
              have HE := Lib.hid (show stepC kl t false = kl from by unfold stepC; rw [e1, if_pos rfl]; rfl);
              (go_wp2;
               go_roundw;
               case rel => exact ⟨k + 1, kl, ⟨#[]⟩, [], by go_num, rfl, by omega, by omega, by (first | omega | (simp; omega)), by simp, Lib.hid rfl, HO, Lib.hid (HN.out _ HE.out), HC⟩;
               case measure => simp [intOf]; omega)))
        · have h47' : ((c.toNat : Int) == 47) = false := beq_eq_false_iff_ne.2 (fun e => h47 (UInt8.toNat_inj.1 (by have : (47 : UInt8).toNat = 47 := rfl; omega)))
          have hsl := slice_run2 s k c hcl'
          have HN := Lib.hid (HR.out.char hcl' h47)
          have HT2 : Hid ((t ++ mk [c]).data.toList = cur ++ [c]) := Lib.hid (by rw [ByteArray.data_append, Array.toList_append, HT.out]; rfl)
          have hcat : ¬ (9223372036854775807 < t.size + (mk [c]).size) := by
            show ¬ (9223372036854775807 < t.size + 1)
            omega
          have h47n : ((c.toNat : Int) != 47) = true := by unfold bne; rw [h47']; rfl
          clear hcl' HR HT h47
          generalize mk [c] = cb at *
          go_wp2
          go_roundw
          case rel => exact ⟨k + 1, kl, _, cur ++ [c], by go_num, rfl, by omega, by omega, by omega, by (rw [List.length_append, List.length_singleton]; omega), HT2, HO, HN, HC⟩
          case measure => simp [intOf]; omega
      · obtain rfl : k = s.size := by omega
        have HN : Hid (∀ kl', stepC kl t true = kl' → RInv KB s.data.toList (s.size + 1) kl' []) := Lib.hid (fun kl' e => by
          rw [← e, mk_eq HT.out]
          exact HR.out.fin HLEN.out.symm)
        clear HR
        skip
        (cases e1 : (t.toList == [46]);
         · (cases e2 : (t.toList == [46, 46]);
            · (have HE := Lib.hid (show stepC kl t true = kl ++ [t] from by unfold stepC; rw [e1, e2, if_neg (by decide), if_neg (by decide)]);
               (obtain ⟨v5, w5, hr, ho, hg⟩ := run_pushS 22 w.heap.size (wr.alloc (.cells #[.string t] 9)) (.slice A kl.length cap) kl t wr.heap.size (ownsRow_chg HO.out ((Chg.refl [] wr).alloc _)) (Blk.new _ _ _) (by first | omega | (simp; omega)) (by have := HC.out.size; simp; omega);
                have HO5 := Lib.hid ho;
                have HC5 := Lib.hid (Chg.grownOwn (HC.out.alloc (.cells #[.string t] 9)) (ownsRow_chg HO.out ((Chg.refl [] wr).alloc (.cells #[.string t] 9))) (Nat.le_refl _) hg);
                clear ho hg;
                go_wp2_with (at_builtin; refine wpList_appS rfl _ _ rfl _ _ rfl rfl v5 w5 hr ?_);
                go_roundw;
                case rel => exact ⟨s.size + 1, _, ⟨#[]⟩, [], by go_num, rfl, by omega, by omega, by (first | omega | (rw [List.length_append, List.length_singleton]; omega) | (simp; omega)), by simp, Lib.hid rfl, HO5, Lib.hid (HN.out _ HE.out), HC5⟩;
                case measure => simp [intOf]))
            · (by_cases h0 : kl.length = 0;
               · (have hkl0 : kl = [] := List.eq_nil_of_length_eq_zero h0;
                  subst hkl0;
                  have HE := Lib.hid (show stepC [] t true = [] ++ [⟨#[]⟩] from by unfold stepC; rw [e1, e2, if_neg (by decide), if_pos rfl]; rfl);
                  (obtain ⟨v5, w5, hr, ho, hg⟩ := run_pushS 22 w.heap.size (wr.alloc (.cells #[.string ⟨#[]⟩] 9)) (.slice A 0 cap) [] ⟨#[]⟩ wr.heap.size (ownsRow_chg HO.out ((Chg.refl [] wr).alloc _)) (Blk.new _ _ _) (by first | omega | (simp; omega)) (by have := HC.out.size; simp; omega);
                   have HO5 := Lib.hid ho;
                   have HC5 := Lib.hid (Chg.grownOwn (HC.out.alloc (.cells #[.string ⟨#[]⟩] 9)) (ownsRow_chg HO.out ((Chg.refl [] wr).alloc (.cells #[.string ⟨#[]⟩] 9))) (Nat.le_refl _) hg);
                   clear ho hg;
                   go_wp2_with (at_builtin; refine wpList_appS rfl _ _ rfl _ _ rfl rfl v5 w5 hr ?_);
                   go_roundw;
                   case rel => exact ⟨s.size + 1, _, ⟨#[]⟩, [], by go_num, rfl, by omega, by omega, by (first | omega | (rw [List.length_append, List.length_singleton]; omega) | (simp; omega)), by simp, Lib.hid rfl, HO5, Lib.hid (HN.out _ HE.out), HC5⟩;
                   case measure => simp [intOf]))
               · (obtain ⟨u, hcut, hou⟩ := HO.out.cut (by omega);
                  have hp0 : (0 : Int) < (kl.length : Int) := by omega;
                  have HOU := Lib.hid hou;
                  have hdl : kl.dropLast.length = kl.length - 1 := List.length_dropLast;
                  have HE := Lib.hid (show stepC kl t true = kl.dropLast ++ [⟨#[]⟩] from by unfold stepC; rw [e1, e2, if_neg (by decide), if_pos rfl]; rfl);
                  clear hou;
                  (obtain ⟨v5, w5, hr, ho, hg⟩ := run_pushS 22 w.heap.size (wr.alloc (.cells #[.string ⟨#[]⟩] 9)) u kl.dropLast ⟨#[]⟩ wr.heap.size (ownsRow_chg HOU.out ((Chg.refl [] wr).alloc _)) (Blk.new _ _ _) (by first | omega | (simp; omega)) (by have := HC.out.size; simp; omega);
                   have HO5 := Lib.hid ho;
                   have HC5 := Lib.hid (Chg.grownOwn (HC.out.alloc (.cells #[.string ⟨#[]⟩] 9)) (ownsRow_chg HOU.out ((Chg.refl [] wr).alloc (.cells #[.string ⟨#[]⟩] 9))) (Nat.le_refl _) hg);
                   clear ho hg;
                   go_wp2_with (at_builtin; refine wpList_appS rfl _ _ rfl _ _ rfl rfl v5 w5 hr ?_);
                   go_roundw;
                   case rel => exact ⟨s.size + 1, _, ⟨#[]⟩, [], by go_num, rfl, by omega, by omega, by (first | omega | (rw [List.length_append, List.length_singleton]; omega) | (simp; omega)), by simp, Lib.hid rfl, HO5, Lib.hid (HN.out _ HE.out), HC5⟩;
                   case measure => simp [intOf]))))
         · (have e2 : (t.toList == [46, 46]) = false := by (rw [beq_iff_eq.1 e1]; rfl);
            have HE := Lib.hid (show stepC kl t true = kl ++ [⟨#[]⟩] from by unfold stepC; rw [e1, if_pos rfl]; rfl);
            (obtain ⟨v5, w5, hr, ho, hg⟩ := run_pushS 22 w.heap.size (wr.alloc (.cells #[.string ⟨#[]⟩] 9)) (.slice A kl.length cap) kl ⟨#[]⟩ wr.heap.size (ownsRow_chg HO.out ((Chg.refl [] wr).alloc _)) (Blk.new _ _ _) (by first | omega | (simp; omega)) (by have := HC.out.size; simp; omega);
             have HO5 := Lib.hid ho;
             have HC5 := Lib.hid (Chg.grownOwn (HC.out.alloc (.cells #[.string ⟨#[]⟩] 9)) (ownsRow_chg HO.out ((Chg.refl [] wr).alloc (.cells #[.string ⟨#[]⟩] 9))) (Nat.le_refl _) hg);
             clear ho hg;
             go_wp2_with (at_builtin; refine wpList_appS rfl _ _ rfl _ _ rfl rfl v5 w5 hr ?_);
             go_roundw;
             case rel => exact ⟨s.size + 1, _, ⟨#[]⟩, [], by go_num, rfl, by omega, by omega, by (first | omega | (rw [List.length_append, List.length_singleton]; omega) | (simp; omega)), by simp, Lib.hid rfl, HO5, Lib.hid (HN.out _ HE.out), HC5⟩;
             case measure => simp [intOf])))
    · obtain rfl : k = s.size + 1 := by omega
      have hkb : kl = KB := HR.out.2 (by rw [HLEN.out])
      subst hkb
      have HJN := Lib.hid (show ∀ j, (Lib.join ((kl.map (·.data.toList)).take j) [47]).length ≤ 70000000 from fun j => by
        have h1 := inter_len [47] 8193 ((kl.map (·.data.toList)).take j) (by
          intro y hy
          obtain ⟨z, hz, rfl⟩ := List.mem_map.1 (List.mem_of_mem_take hy)
          have : tot [z] ≤ tot kl := by
            obtain ⟨a, b, rfl⟩ := List.append_of_mem hz
            rw [show a ++ z :: b = a ++ ([z] ++ b) from rfl, tot_app, tot_app]
            omega
          rw [tot_one] at this
          have := HKT.out
          omega)
        have h2 : ((kl.map (·.data.toList)).take j).length ≤ 8193 := by
          rw [List.length_take, List.length_map]
          have := HKL.out
          omega
        have h3 : ((kl.map (·.data.toList)).take j).length * (8193 + ([47] : List UInt8).length) ≤ 8193 * 8194 := Nat.mul_le_mul h2 (Nat.le_refl _)
        omega)
      have hkl2 : (kl.length : Int) ≤ 8193 := by have := HKL.out; omega
      clear HR
      go_wp2
      go_loopw [7, 74] (fun sv i w' => ∃ (j : Nat) (J : ByteArray), i = .int .i64 j ∧ j ≤ kl.length ∧ sv = .string J ∧ Hid (J.data.toList = 47 :: Lib.join ((kl.map (·.data.toList)).take j) [47]) ∧ w' = wr) (fun _ i _ => kl.length - (intOf i).toNat)
      case atStart => exact ⟨0, ⟨#[47]⟩, rfl, by omega, rfl, Lib.hid rfl, rfl⟩
      case round =>
        obtain ⟨j, J, rfl, hj, rfl, HJ, rfl⟩ := hrel
        have hJs : J.size ≤ 70000001 := by
          rw [← toList_len, HJ.out, List.length_cons]
          have := HJN.out j
          omega
        by_cases hjl : j < kl.length
        · have hjl2 : (j : Int) < (kl.length : Int) := by omega
          obtain ⟨g, cap', e, q1, q2, q3⟩ := HO.out.read (by omega)
          injection e with e e2 e3
          subst e e3
          obtain ⟨x, hx⟩ : ∃ x, kl[j]? = some x := ⟨_, List.getElem?_eq_getElem hjl⟩
          have cell := q3 j x hx
          have hxs : x.size ≤ 8193 := by
            have : tot [x] ≤ tot kl := by
              obtain ⟨a, b, hab⟩ := List.append_of_mem (List.mem_of_getElem? hx)
              rw [hab, show a ++ x :: b = a ++ ([x] ++ b) from rfl, tot_app, tot_app]
              omega
            rw [tot_one, toList_len] at this
            have := HKT.out
            omega
          have hjt := join_take (kl.map (·.data.toList)) j x.data.toList (by rw [List.getElem?_map, hx]; rfl)
          have HJT := Lib.hid hjt
          clear hjt q3 hx
          by_cases hj0 : 0 < j
          · have hj1 : (0 : Int) < (j : Int) := by omega
            have hc1 : ¬ (9223372036854775807 < J.size + (⟨#[47]⟩ : ByteArray).size) := by
              show ¬ (9223372036854775807 < J.size + 1)
              omega
            have hc2 : ¬ (9223372036854775807 < (J ++ ⟨#[47]⟩).size + x.size) := by
              rw [ByteArray.size_append]
              show ¬ (9223372036854775807 < J.size + 1 + x.size)
              omega
            have HJ2 : Hid ((J ++ ⟨#[47]⟩ ++ x).data.toList = 47 :: Lib.join ((kl.map (·.data.toList)).take (j + 1)) [47]) := Lib.hid (by
              rw [HJT.out, if_pos hj0, ByteArray.data_append, Array.toList_append, ByteArray.data_append, Array.toList_append, HJ.out]
              simp)
            clear hj0
            go_wp2
            go_roundw
            case rel => exact ⟨j + 1, _, by go_num, by omega, rfl, HJ2, by first | rfl | trivial⟩
            case measure => simp [intOf]; omega
          · have hj1 : ¬ (0 : Int) < (j : Int) := by omega
            have hc2 : ¬ (9223372036854775807 < J.size + x.size) := by omega
            have HJ2 : Hid ((J ++ x).data.toList = 47 :: Lib.join ((kl.map (·.data.toList)).take (j + 1)) [47]) := Lib.hid (by
              rw [HJT.out, if_neg hj0, ByteArray.data_append, Array.toList_append, HJ.out]
              simp)
            clear hj0
            go_wp2
            go_roundw
            case rel => exact ⟨j + 1, _, by go_num, by omega, rfl, HJ2, by first | rfl | trivial⟩
            case measure => simp [intOf]; omega
        · obtain rfl : j = kl.length := by omega
          have hJ : J = CB := by
            refine (mk_eq HJ.out).trans (mk_eq ?_).symm
            rw [HCBH.out]
            congr 2
            rw [List.take_of_length_le (by rw [List.length_map]; omega)]
          go_wp2
          go_ret2
          exact ⟨by rw [← hJ]; rfl, HC.out⟩
theorem rclean_any (s : ByteArray) (w : World) (c : ByteArray) (g : Int) (hz : cleanF s = (c, g)) :
    Calls Tryz.prog 84 #[.string s] w fun o w' => o = .returned (.tuple #[.string c, .int .i64 g]) ∧ Hid (Chg [] w w') := by
  unfold cleanF at hz
  by_cases h0 : s.size = 0
  · have hl : s.data.toList = [] := List.eq_nil_of_length_eq_zero (by rw [toList_len]; exact h0)
    rw [if_pos (by rw [hl]; rfl)] at hz
    obtain ⟨q1, q2⟩ := Prod.mk.inj hz
    subst q1 q2
    have he : s.toList.isEmpty = true := by rw [Lib.toList_data, hl]; rfl
    clear hz hl
    go_enter Tryz.func84, Tryz.ntmps84
    go_wp2
    go_ret2
    exact ⟨rfl, Chg.refl _ _⟩
  · have he : s.toList.isEmpty = false := by
      rw [Lib.toList_data, List.isEmpty_eq_false_iff]
      intro q
      have := toList_len s
      rw [q] at this
      simp at this
      omega
    have hg0 := toList_get s 0 (by omega)
    have hpre : Lib.hasPrefix s.data.toList [47] = decide ((s[0]'(by omega)).toNat = 47) := by
      generalize s[0]'(by omega) = x at *
      cases hl : s.data.toList with
      | nil => rw [hl] at hg0; simp at hg0
      | cons y r =>
        rw [hl] at hg0
        have : y = x := by simpa using hg0
        subst this
        unfold Lib.hasPrefix
        simp only [List.isPrefixOf, Bool.and_true]
        rw [Bool.eq_iff_iff, beq_iff_eq, decide_eq_true_eq, ← UInt8.toNat_inj]
        exact ⟨fun e => e.symm, fun e => e.symm⟩
    by_cases hx : (s[0]'(by omega)).toNat = 47
    · rw [hpre, decide_eq_true hx, if_neg (by decide)] at hz
      by_cases h8 : 8192 < s.size
      · rw [if_pos h8] at hz
        obtain ⟨q1, q2⟩ := Prod.mk.inj hz
        subst q1 q2
        have h2 : (8192 : Int) < (s.size : Int) := by omega
        have hx2 : ((s[0]'(by omega)).toNat : Int) = 47 := by omega
        clear hz hg0 hpre hx
        go_enter Tryz.func84, Tryz.ntmps84
        go_wp2
        go_ret2
        exact ⟨rfl, Chg.refl _ _⟩
      · rw [if_neg h8] at hz
        obtain ⟨q1, q2⟩ := Prod.mk.inj hz
        subst q1 q2
        exact rclean_walk s w (by omega) (by omega) hx
    · rw [hpre, decide_eq_false hx, if_pos rfl] at hz
      obtain ⟨q1, q2⟩ := Prod.mk.inj hz
      subst q1 q2
      have hx2 : ((s[0]'(by omega)).toNat : Int) ≠ 47 := by omega
      clear hz hg0 hpre
      go_enter Tryz.func84, Tryz.ntmps84
      go_wp2
      go_ret2
      exact ⟨rfl, Chg.refl _ _⟩
end Go.Proofs.YtjndgkbikhndoaaGreatDoor
