/- Layer 6: slices of texts that a call makes itself; Clean. -/
import Derived.Test.YtjndgkbikhndoaaGreatDoorT3
import Derived.OwnWalk
import Derived.Maps.AppendAt
import Derived.Lib.SplitLaws
namespace Go.Proofs.YtjndgkbikhndoaaGreatDoor
open Go.RowKit Go.ChangeShapes Go.WideShapes
set_option linter.unusedVariables false

/-- A slice of texts that lies in memory from block B on. -/
def OwnS (B : Nat) (w : World) (v : Value) (ts : List ByteArray) : Prop := w.ownsRow B 9 1 v ts.length (ts.map Value.string)
theorem OwnS.nil (B : Nat) (w : World) : OwnS B w (.slice none 0 0) [] := World.ownsRow_nil _ _ _ _
theorem OwnS.form {B : Nat} {w : World} {v : Value} {ts : List ByteArray} (h : OwnS B w v ts) : ∃ A cap, v = .slice A ts.length cap := by
  rcases h.2 with ⟨rfl, h0⟩ | ⟨g, cap, cur, rfl, _⟩
  · exact ⟨none, 0, by rw [h0]⟩
  · exact ⟨_, cap, rfl⟩
theorem OwnS.read {B : Nat} {w : World} {v : Value} {ts : List ByteArray} (h : OwnS B w v ts) (hl : 0 < ts.length) : ∃ g cap, v = .slice (some ⟨g, 0, none⟩) ts.length cap ∧ ts.length ≤ cap ∧ g < w.heap.size ∧ ∀ (j : Nat) (x : ByteArray), ts[j]? = some x → w.cell? ⟨g, j, none⟩ = some (.string x) := by
  rcases h.2 with ⟨rfl, h0⟩ | ⟨g, cap, cur, rfl, hb, hh, h1, h2, h3, h4⟩
  · omega
  · refine ⟨g, cap, rfl, h1, lt_of_block hh, fun j x hj => ?_⟩
    have hi' : (cur.toList.take (ts.length * 1))[j]? = some (.string x) := by
      rw [h4, List.getElem?_map, hj]
      rfl
    rw [List.getElem?_take] at hi'
    split at hi'
    · simp only [World.cell?, hh]
      simpa using hi'
    · cases hi'
theorem ownsRow_chg {B e k n : Nat} {v : Value} {xs : List Value} {w w' : World} (h : w.ownsRow B e k v n xs) (hc : Chg [] w w') : w'.ownsRow B e k v n xs := by
  refine ⟨h.1, ?_⟩
  rcases h.2 with h2 | ⟨g, cap, cur, rfl, hb, hh, r⟩
  · exact .inl h2
  · exact .inr ⟨g, cap, cur, rfl, hb, by rw [hc.block g (lt_of_block hh) (by simp)]; exact hh, r⟩
theorem OwnS.chg {B : Nat} {w w' : World} {v : Value} {ts : List ByteArray} (h : OwnS B w v ts) (hc : Chg [] w w') : OwnS B w' v ts := ownsRow_chg h hc
theorem OwnS.push {B : Nat} {w : World} {v : Value} {ts : List ByteArray} {x : ByteArray} (h : w.ownsRow B 9 1 v (ts.length + 1) (ts.map Value.string ++ [.string x])) : OwnS B w v (ts ++ [x]) := by
  unfold OwnS
  simpa using h
/-- A row of one's own has grown: nothing that lay has turned. -/
theorem Chg.grownOwn {B e k n : Nat} {v : Value} {xs : List Value} {w0 w w' : World} (h : Chg [] w0 w) (ho : w.ownsRow B e k v n xs) (hB : w0.heap.size ≤ B) (hg : w.grownBy w' v.ownBlock) : Chg [] w0 w' :=
  h.grown hg (fun q hq hlt => by have := ho.lt q hq; omega)
theorem info9 : (Tryz.prog.info? 9).map (fun i => (i.zero, i.size, i.bytes)) = some (some (.string ⟨#[]⟩), 1, 16) := by kernel_rfl
set_option maxRecDepth 100000 in
/-- The last one is taken away. -/
theorem OwnS.cut {B : Nat} {w : World} {v : Value} {ts : List ByteArray} (h : OwnS B w v ts) (hl : 0 < ts.length) :
    ∃ u, (∀ W, (Instr.slice 22 v none (some (.int .i64 ((ts.length : Int) - 1))) none).run Tryz.prog W = .ok u W) ∧ OwnS B w u ts.dropLast := by
  rcases h.2 with ⟨rfl, h0⟩ | ⟨g, cap, cur, rfl, hb, hh, h1, h2, h3, h4⟩
  · omega
  · refine ⟨.slice (some ⟨g, 0, none⟩) (ts.length - 1) cap, fun W => ?_, ?_⟩
    · rw [run_slice_h (P := Tryz.prog) W 22 _ ts.length cap Tryz.underlying22 .i64 ((ts.length : Int) - 1) (by omega) (by omega)]
      have e1 : ((ts.length : Int) - 1).toNat = ts.length - 1 := by omega
      rw [e1]
      go_simp
    · have hl2 : ts.dropLast.length = ts.length - 1 := List.length_dropLast
      refine ⟨by rw [List.length_map, hl2]; omega, .inr ⟨g, cap, cur, by rw [hl2], hb, hh, by rw [hl2]; omega, h2, h3, ?_⟩⟩
      rw [hl2, List.dropLast_eq_take, List.map_take, ← h4, List.take_take]
      congr 1
      omega
set_option maxRecDepth 100000 in
theorem run_pushS (ty B : Nat) (w : World) (v : Value) (ts : List ByteArray) (x : ByteArray) (ad : Nat) (ho : OwnS B w v ts) (hc : Blk w ad [.string x] 9) (hl : ts.length ≤ 4000000) (hB : B ≤ w.heap.size) :
    ∃ v' w', (Builtin.append_ #[22, 22] ty #[v, .slice (some ⟨ad, 0, none⟩) 1 1]).run Tryz.prog w = .ok v' w' ∧ OwnS B w' v' (ts ++ [x]) ∧ w.grownBy w' v.ownBlock := by
  obtain ⟨i0, hi, hz0, hz1, hz2⟩ := info_parts info9
  obtain ⟨v', w', h1, h2, h3, _⟩ := run_append_own (P := Tryz.prog) w B 22 ty 9 i0 _ 1 16 Tryz.underlying22 hi hz0 hz1 hz2 rfl (by decide) v ts.length _ ho ⟨ad, 0, none⟩ 1 1 [.string x] rfl (by
    intro j u hj
    match j, hj with
    | 0, hj =>
      injection hj with hj
      subst hj
      rw [Addr.add_lit]
      exact hc.cell 0 _ rfl) (by simp [Value.oneCell']) (by unfold maxLen; omega) (by omega) hB
  exact ⟨v', w', h1, OwnS.push h2, h3⟩
/-- append of texts, in the list of a plain region's operations. -/
theorem wpList_appS {w : World} {ops : Array Oper} {rest : List Oper} {o : Oper} {a : Go.Act} {Q : Exit → Go.Act → World → Prop} (hgd : o.guard = none) (s x : Operand)
    (ho : o.op = .call { callee := .builtin .append, args := #[s, x], argTypes := #[22, 22] }) (v u : Value) (hs : a.eval s = v) (hx : a.eval x = u) (v' : Value) (w' : World)
    (hr : (Builtin.append_ #[22, 22] o.type #[v, u]).run Tryz.prog w = .ok v' w') (h : wpList Tryz.prog ops Q rest (a.put o.dst v') w') : wpList Tryz.prog ops Q (o :: rest) a w := by
  refine wpList_plain hgd fun K hK => ?_
  unfold Oper.wp execOp
  simp only [ho, resolve, invoke, builtin, Sem.run_bind, Sem.run_pure, Result.andThen_ok, List.map_toArray, List.map_cons, List.map_nil, hs, hx, hr]
  exact hK _ _ h
/-- One part of a path, behind those that are kept. -/
def stepC (kept : List ByteArray) (x : ByteArray) (last : Bool) : List ByteArray :=
  if (x.toList == [46]) = true then (if last then kept ++ [⟨#[]⟩] else kept)
  else if (x.toList == [46, 46]) = true then (if last then kept.dropLast ++ [⟨#[]⟩] else kept.dropLast)
  else kept ++ [x]
def cleanL : List ByteArray → List ByteArray → List ByteArray
  | kept, [] => kept
  | kept, x :: r => cleanL (stepC kept x r.isEmpty) r
theorem stepC_len (kept : List ByteArray) (x : ByteArray) (b : Bool) : (stepC kept x b).length ≤ kept.length + 1 := by
  unfold stepC
  split
  · split <;> simp
  · split
    · split <;> simp <;> omega
    · simp
theorem cleanL_len : ∀ (l kept : List ByteArray), (cleanL kept l).length ≤ kept.length + l.length
  | [], kept => Nat.le_refl _
  | x :: r, kept => by
    have h1 := cleanL_len r (stepC kept x r.isEmpty)
    have h2 := stepC_len kept x r.isEmpty
    show (cleanL (stepC kept x r.isEmpty) r).length ≤ _
    rw [List.length_cons]
    omega
theorem stepC_all {P : ByteArray → Prop} {kept : List ByteArray} {x : ByteArray} {b : Bool} (h : ∀ y ∈ kept, P y) (hx : (x.toList == [46]) = false → (x.toList == [46, 46]) = false → P x) (h0 : P ⟨#[]⟩) : ∀ y ∈ stepC kept x b, P y := by
  intro y hy
  unfold stepC at hy
  split at hy
  · split at hy
    · rcases List.mem_append.1 hy with h2 | h2
      · exact h y h2
      · rw [List.mem_singleton.1 h2]; exact h0
    · exact h y hy
  · rename_i q1
    split at hy
    · split at hy
      · rcases List.mem_append.1 hy with h2 | h2
        · exact h y (List.dropLast_subset _ h2)
        · rw [List.mem_singleton.1 h2]; exact h0
      · exact h y (List.dropLast_subset _ hy)
    · rename_i q2
      rcases List.mem_append.1 hy with h2 | h2
      · exact h y h2
      · rw [List.mem_singleton.1 h2]; exact hx (Bool.eq_false_iff.2 q1) (Bool.eq_false_iff.2 q2)
theorem cleanL_all {P : ByteArray → Prop} (h0 : P ⟨#[]⟩) : ∀ (l kept : List ByteArray), (∀ y ∈ kept, P y) → (∀ y ∈ l, (y.toList == [46]) = false → (y.toList == [46, 46]) = false → P y) → ∀ y ∈ cleanL kept l, P y
  | [], kept, h, _ => h
  | x :: r, kept, h, hl => cleanL_all h0 r (stepC kept x r.isEmpty) (stepC_all h (hl x List.mem_cons_self) h0) (fun y hy => hl y (List.mem_cons_of_mem _ hy))
theorem inter_len (sep : List UInt8) (M : Nat) : ∀ (xs : List (List UInt8)), (∀ y ∈ xs, y.length ≤ M) → (Lib.join xs sep).length ≤ xs.length * (M + sep.length)
  | [], _ => by simp [Lib.join]
  | [x], h => by
    have := h x List.mem_cons_self
    simp [Lib.join]
    omega
  | x :: y :: r, h => by
    have h1 := h x List.mem_cons_self
    have h2 := inter_len sep M (y :: r) (fun z hz => h z (List.mem_cons_of_mem _ hz))
    unfold Lib.join at h2 ⊢
    rw [List.intercalate_cons_cons, List.length_append, List.length_append]
    rw [List.length_cons, Nat.succ_mul]
    omega
/-- A path's parts, between the slashes. -/
def partsB (s : ByteArray) : List ByteArray := Lib.splitB ⟨#[47]⟩ 0 (Lib.countB s ⟨#[47]⟩) s
theorem splitB_size (sep : ByteArray) : ∀ (k : Nat) (s : ByteArray), ∀ y ∈ Lib.splitB sep 0 k s, y.size ≤ s.size
  | 0, s => by
    intro y hy
    rw [Lib.splitB_zero, List.mem_singleton] at hy
    rw [hy]
    exact Nat.le_refl _
  | k + 1, s => by
    intro y hy
    unfold Lib.splitB at hy
    split at hy
    · rw [List.mem_singleton] at hy
      rw [hy]
      exact Nat.le_refl _
    · have ext_size : ∀ (t : ByteArray) (a b : Nat), (t.extract a b).size ≤ t.size := by
        intro t a b
        show (t.extract a b).data.size ≤ t.data.size
        rw [ByteArray.data_extract, Array.size_extract]
        omega
      rcases List.mem_cons.1 hy with h | h
      · rw [h]
        exact ext_size _ _ _
      · exact Nat.le_trans (splitB_size sep k _ y h) (ext_size _ _ _)
theorem parts_len (s : ByteArray) : (partsB s).length = Lib.countB s ⟨#[47]⟩ + 1 := Lib.splitB_all ⟨#[47]⟩ (by decide) 0 _ s rfl
theorem count_le (s : ByteArray) : Lib.countB s ⟨#[47]⟩ ≤ s.size := Lib.countB_le ⟨#[47]⟩ (by decide) s.size s (Nat.le_refl _)
/-- A path without dots. -/
def cleanB (s : ByteArray) : ByteArray := ⟨#[47]⟩ ++ ⟨(Lib.join ((cleanL [] (partsB s)).map (·.data.toList)) [47]).toArray⟩
def cleanF (s : ByteArray) : ByteArray × Int :=
  if Lib.hasPrefix s.data.toList [47] = false then (⟨#[]⟩, 1) else if 8192 < s.size then (⟨#[]⟩, 2) else (cleanB (s.extract 1 s.size), 0)
theorem slice_from' (s : ByteArray) (a : Nat) (w : World) (ha : a ≤ s.size) : (Instr.slice 9 (.string s) (some (.int .i64 (a : Int))) none none).run Tryz.prog w = .ok (.string (s.extract a s.size)) w := by
  have := run_slice_string_from_if (P := Tryz.prog) w 9 s .i64 (a : Int) Tryz.underlying9
  rw [this]
  simp
  omega
set_option maxHeartbeats 8000000 in
set_option maxRecDepth 100000 in
theorem clean_walk (s : ByteArray) (w : World) (hE : Hid (Env w)) (h1 : 1 ≤ s.size) (h8 : s.size ≤ 8192) (hp : Lib.hasPrefix s.data.toList [47] = true) :
    Calls Tryz.prog 48 #[.string s] w fun o w' => o = .returned (.tuple #[.string (cleanB (s.extract 1 s.size)), .int .i64 0]) ∧ Hid (Chg [] w w') := by
  have h2 : ¬ (8192 : Int) < (s.size : Int) := by omega
  have HP := Lib.hid (fun w => Tryz.strings_HasPrefix s ⟨#[47]⟩ w)
  rw [show (⟨#[47]⟩ : ByteArray).data.toList = [47] from rfl, hp] at HP
  have hs1 := fun w => slice_from' s 1 w h1
  rw [show ((1 : Nat) : Int) = 1 from rfl] at hs1
  have hrs : (s.extract 1 s.size).size ≤ 8192 := by
    show (s.extract 1 s.size).data.size ≤ _
    rw [ByteArray.data_extract, Array.size_extract]
    show min s.size s.data.size - 1 ≤ 8192
    omega
  generalize s.extract 1 s.size = R at *
  obtain ⟨⟨m, hm⟩, -⟩ := hE.out
  have HS := Lib.hid (Tryz.strings_Split R ⟨#[47]⟩ m w (by omega) hm (by decide))
  have hcl := count_le R
  have hpl := parts_len R
  have hps := splitB_size ⟨#[47]⟩ (Lib.countB R ⟨#[47]⟩) R
  have hHS : Hid (Calls Tryz.prog 74 #[.string R, .string ⟨#[47]⟩] w fun e w' =>
      e = .returned (.slice (some ⟨w.heap.size, 0, none⟩) (partsB R).length (partsB R).length) ∧ w' = w.alloc (.cells ((partsB R).map Value.string).toArray 9)) := by
    rw [hpl]
    exact HS
  have hps' : ∀ y ∈ partsB R, y.size ≤ R.size := hps
  have HCB := Lib.hid (show cleanB R = ⟨#[47]⟩ ++ ⟨(Lib.join ((cleanL [] (partsB R)).map (·.data.toList)) [47]).toArray⟩ from rfl)
  have hlen : (partsB R).length ≤ 8193 := by omega
  have hm' := hm
  clear HS hps hpl hcl hm
  generalize cleanB R = CB at *
  generalize partsB R = ps at *
  have hpl1 : (ps.length : Int) ≤ 8193 := by omega
  have HL := Lib.hid (show (cleanL [] ps).length ≤ 8193 from Nat.le_trans (cleanL_len ps []) (by simpa using hlen))
  have HM := Lib.hid (cleanL_all (P := fun y => y.size ≤ 8192) (by show 0 ≤ 8192; omega) ps [] (by simp) (fun y hy _ _ => Nat.le_trans (hps' y hy) hrs))
  have HBK := Lib.hid (Blk.new w (ps.map Value.string) 9)
  have HC1 := Lib.hid ((Chg.refl [] w).alloc (.cells (ps.map Value.string).toArray 9))
  clear hps'
  go_enter Tryz.func48, Tryz.ntmps48
  go_wp2_with (first | (go_at_call 66; (with_reducible refine (HP.out _).mono ?_); rintro e w' ⟨rfl, hw⟩; rw [hw]; clear hw) | (go_at_call 74; (with_reducible refine hHS.out.mono ?_); rintro e w' ⟨rfl, hw⟩; rw [hw]; clear hw))
  generalize w.alloc (.cells (ps.map Value.string).toArray 9) = W1 at *
  go_loopw [4, 20] (fun v i wr => ∃ (k : Nat) (kl : List ByteArray), i = .int .i64 k ∧ k ≤ ps.length ∧ kl.length ≤ k ∧ Hid (OwnS W1.heap.size wr v kl) ∧ Hid (cleanL kl (ps.drop k) = cleanL [] ps) ∧ Hid (Chg [] W1 wr)) (fun _ i _ => ps.length - (intOf i).toNat)
  case atStart => exact ⟨0, [], rfl, by omega, by simp, Lib.hid (OwnS.nil _ _), Lib.hid rfl, Chg.refl _ _⟩
  case round =>
    obtain ⟨k, kl, rfl, hk, hkl, HO, HD, HC⟩ := hrel
    obtain ⟨A, cap, rfl⟩ := HO.out.form
    by_cases hlt : k < ps.length
    · have hlt2 : (k : Int) < (ps.length : Int) := by omega
      obtain ⟨x, hx⟩ : ∃ x, ps[k]? = some x := ⟨_, List.getElem?_eq_getElem hlt⟩
      have cell := (HBK.out.chg HC.out (by simp)).cell k (.string x) (by rw [List.getElem?_map, hx]; rfl)
      have hdr : ps.drop k = x :: ps.drop (k + 1) := by
        rw [List.drop_eq_getElem_cons hlt]
        congr 1
        exact (List.getElem?_eq_some_iff.1 hx).2
      have hD := HD.out
      rw [hdr] at hD
      have hD' : cleanL (stepC kl x (ps.drop (k + 1)).isEmpty) (ps.drop (k + 1)) = cleanL [] ps := hD
      have hla : (ps.drop (k + 1)).isEmpty = decide (k + 1 = ps.length) := by
        by_cases q : k + 1 = ps.length
        · rw [decide_eq_true q, q, List.drop_length]; rfl
        · rw [decide_eq_false q, List.isEmpty_eq_false_iff]
          intro h
          have := congrArg List.length h
          rw [List.length_drop] at this
          simp at this
          omega
      rw [hla] at hD'
      have HD2 := Lib.hid hD'
      clear hD hD' hla hdr HD hx
      unfold stepC at HD2
      cases e1 : (x.toList == [46])
      · cases e2 : (x.toList == [46, 46])
        · rw [e1, e2, if_neg (by decide), if_neg (by decide)] at HD2
          (obtain ⟨v5, w5, hr, ho, hg⟩ := run_pushS 22 W1.heap.size (wr.alloc (.cells #[.string x] 9)) (.slice A kl.length cap) kl x wr.heap.size (ownsRow_chg HO.out ((Chg.refl [] wr).alloc _)) (Blk.new _ _ _) (by first | omega | (simp; omega)) (by have := HC.out.size; simp; omega);
           have HO5 := Lib.hid ho;
           have HC5 := Lib.hid (Chg.grownOwn (HC.out.alloc (.cells #[.string x] 9)) (ownsRow_chg HO.out ((Chg.refl [] wr).alloc (.cells #[.string x] 9))) (Nat.le_refl _) hg);
           clear ho hg;
           go_wp2_with (at_builtin; refine wpList_appS rfl _ _ rfl _ _ rfl rfl v5 w5 hr ?_);
           go_roundw;
           case rel => exact ⟨k + 1, _, by go_num, by omega, by (first | omega | (rw [List.length_append, List.length_singleton]; omega) | (simp; omega)), HO5, HD2, HC5⟩;
           case measure => simp [intOf]; omega)
        · rw [e1, e2, if_neg (by decide), if_pos rfl] at HD2
          by_cases h0 : kl.length = 0
          · have hkl0 : kl = [] := List.eq_nil_of_length_eq_zero h0
            subst hkl0
            by_cases hq : k + 1 = ps.length
            · have q : ((k : Int) == (ps.length : Int) - 1) = true := beq_iff_eq.2 (by omega)
              rw [decide_eq_true hq, if_pos rfl] at HD2
              (obtain ⟨v5, w5, hr, ho, hg⟩ := run_pushS 22 W1.heap.size (wr.alloc (.cells #[.string ⟨#[]⟩] 9)) (.slice A 0 cap) [] ⟨#[]⟩ wr.heap.size (ownsRow_chg HO.out ((Chg.refl [] wr).alloc _)) (Blk.new _ _ _) (by first | omega | (simp; omega)) (by have := HC.out.size; simp; omega);
               have HO5 := Lib.hid ho;
               have HC5 := Lib.hid (Chg.grownOwn (HC.out.alloc (.cells #[.string ⟨#[]⟩] 9)) (ownsRow_chg HO.out ((Chg.refl [] wr).alloc (.cells #[.string ⟨#[]⟩] 9))) (Nat.le_refl _) hg);
               clear ho hg;
               go_wp2_with (at_builtin; refine wpList_appS rfl _ _ rfl _ _ rfl rfl v5 w5 hr ?_);
               go_roundw;
               case rel => exact ⟨k + 1, _, by go_num, by omega, by (first | omega | (rw [List.length_append, List.length_singleton]; omega) | (simp; omega)), HO5, HD2, HC5⟩;
               case measure => simp [intOf]; omega)
            · have q : ((k : Int) == (ps.length : Int) - 1) = false := beq_eq_false_iff_ne.2 (by omega)
              rw [decide_eq_false hq, if_neg (by decide)] at HD2
              go_wp2
              go_roundw
              case rel => exact ⟨k + 1, [], by go_num, by omega, by simp, HO, HD2, HC⟩
              case measure => simp [intOf]; omega
          · obtain ⟨u, hcut, hou⟩ := HO.out.cut (by omega)
            have hp0 : (0 : Int) < (kl.length : Int) := by omega
            have HOU := Lib.hid hou
            have hdl : kl.dropLast.length = kl.length - 1 := List.length_dropLast
            clear hou
            by_cases hq : k + 1 = ps.length
            · have q : ((k : Int) == (ps.length : Int) - 1) = true := beq_iff_eq.2 (by omega)
              rw [decide_eq_true hq, if_pos rfl] at HD2
              (obtain ⟨v5, w5, hr, ho, hg⟩ := run_pushS 22 W1.heap.size (wr.alloc (.cells #[.string ⟨#[]⟩] 9)) u kl.dropLast ⟨#[]⟩ wr.heap.size (ownsRow_chg HOU.out ((Chg.refl [] wr).alloc _)) (Blk.new _ _ _) (by first | omega | (simp; omega)) (by have := HC.out.size; simp; omega);
               have HO5 := Lib.hid ho;
               have HC5 := Lib.hid (Chg.grownOwn (HC.out.alloc (.cells #[.string ⟨#[]⟩] 9)) (ownsRow_chg HOU.out ((Chg.refl [] wr).alloc (.cells #[.string ⟨#[]⟩] 9))) (Nat.le_refl _) hg);
               clear ho hg;
               go_wp2_with (at_builtin; refine wpList_appS rfl _ _ rfl _ _ rfl rfl v5 w5 hr ?_);
               go_roundw;
               case rel => exact ⟨k + 1, _, by go_num, by omega, by (first | omega | (rw [List.length_append, List.length_singleton]; omega) | (simp; omega)), HO5, HD2, HC5⟩;
               case measure => simp [intOf]; omega)
            · have q : ((k : Int) == (ps.length : Int) - 1) = false := beq_eq_false_iff_ne.2 (by omega)
              rw [decide_eq_false hq, if_neg (by decide)] at HD2
              go_wp2
              go_roundw
              case rel => exact ⟨k + 1, kl.dropLast, by go_num, by omega, by omega, HOU, HD2, HC⟩
              case measure => simp [intOf]; omega
      · have e2 : (x.toList == [46, 46]) = false := by
          rw [beq_iff_eq.1 e1]; rfl
        rw [e1, if_pos rfl] at HD2
        by_cases hq : k + 1 = ps.length
        · have q : ((k : Int) == (ps.length : Int) - 1) = true := beq_iff_eq.2 (by omega)
          rw [decide_eq_true hq, if_pos rfl] at HD2
          (obtain ⟨v5, w5, hr, ho, hg⟩ := run_pushS 22 W1.heap.size (wr.alloc (.cells #[.string ⟨#[]⟩] 9)) (.slice A kl.length cap) kl ⟨#[]⟩ wr.heap.size (ownsRow_chg HO.out ((Chg.refl [] wr).alloc _)) (Blk.new _ _ _) (by first | omega | (simp; omega)) (by have := HC.out.size; simp; omega);
           have HO5 := Lib.hid ho;
           have HC5 := Lib.hid (Chg.grownOwn (HC.out.alloc (.cells #[.string ⟨#[]⟩] 9)) (ownsRow_chg HO.out ((Chg.refl [] wr).alloc (.cells #[.string ⟨#[]⟩] 9))) (Nat.le_refl _) hg);
           clear ho hg;
           go_wp2_with (at_builtin; refine wpList_appS rfl _ _ rfl _ _ rfl rfl v5 w5 hr ?_);
           go_roundw;
           case rel => exact ⟨k + 1, _, by go_num, by omega, by (first | omega | (rw [List.length_append, List.length_singleton]; omega) | (simp; omega)), HO5, HD2, HC5⟩;
           case measure => simp [intOf]; omega)
        · have q : ((k : Int) == (ps.length : Int) - 1) = false := beq_eq_false_iff_ne.2 (by omega)
          rw [decide_eq_false hq, if_neg (by decide)] at HD2
          go_wp2
          go_roundw
          case rel => exact ⟨k + 1, kl, by go_num, by omega, by omega, HO, HD2, HC⟩
          case measure => simp [intOf]; omega
    · obtain rfl : k = ps.length := by omega
      have hR : kl = cleanL [] ps := by
        have := HD.out
        rw [List.drop_length] at this
        exact this
      rw [← hR] at HL HM HCB
      have hjl : (Lib.join (kl.map (·.data.toList)) [47]).length ≤ 140737488355328 := by
        have h1 := inter_len [47] 8192 (kl.map (·.data.toList)) (by
          intro y hy
          obtain ⟨z, hz, rfl⟩ := List.mem_map.1 hy
          have := HM.out z hz
          rw [toList_len]
          exact this)
        rw [List.length_map] at h1
        have h2 := HL.out
        have h3 : kl.length * (8192 + ([47] : List UInt8).length) ≤ 8193 * 8193 := Nat.mul_le_mul h2 (Nat.le_refl _)
        omega
      have HJL := Lib.hid hjl
      clear hR HD hjl
      by_cases h0 : kl.length = 0
      · have hkl0 : kl = [] := List.eq_nil_of_length_eq_zero h0
        subst hkl0
        have HJ := Lib.hid (fun w => Tryz.strings_Join_none A cap ⟨#[47]⟩ w)
        have hcb : CB = ⟨#[47]⟩ ++ ⟨#[]⟩ := HCB.out
        have HCB2 := Lib.hid hcb
        clear hcb
        go_wp2_with (go_at_call 50; (with_reducible refine (HJ.out _).mono ?_); rintro e w' ⟨rfl, hw⟩; rw [hw]; clear hw)
        go_ret2
        exact ⟨by rw [HCB2.out]; rfl, HC1.out.trans HC.out (by simp)⟩
      · obtain ⟨g, cap', e, h4, h5, h6⟩ := HO.out.read (by omega)
        injection e with e e3 e4
        subst e e4
        have HJ := Lib.hid (Tryz.strings_Join g 0 cap kl ⟨#[47]⟩ wr (fun j y hy => by rw [Nat.zero_add]; exact h6 j y hy) h5 (by omega) h4 HJL.out)
        rw [show (⟨#[47]⟩ : ByteArray).data.toList = [47] from rfl] at HJ
        have hsz : ¬ (9223372036854775807 < (⟨#[47]⟩ : ByteArray).size + (⟨(Lib.join (kl.map (·.data.toList)) [47]).toArray⟩ : ByteArray).size) := by
          have := HJL.out
          show ¬ (9223372036854775807 < 1 + (Lib.join (kl.map (·.data.toList)) [47]).length)
          omega
        generalize (⟨(Lib.join (kl.map (·.data.toList)) [47]).toArray⟩ : ByteArray) = J at *
        clear h6
        go_wp2_with fail
        refine HJ.out.mono ?_
        rintro e w2 ⟨rfl, H2⟩
        go_wp2
        go_ret2
        exact ⟨by rw [HCB.out]; rfl, (HC1.out.trans HC.out (by simp)).trans (Chg.of_below H2) (by simp)⟩
theorem clean_any (s : ByteArray) (w : World) (hE : Hid (Env w)) (c : ByteArray) (g : Int) (hz : cleanF s = (c, g)) :
    Calls Tryz.prog 48 #[.string s] w fun o w' => o = .returned (.tuple #[.string c, .int .i64 g]) ∧ Hid (Chg [] w w') := by
  unfold cleanF at hz
  cases hp : Lib.hasPrefix s.data.toList [47]
  · rw [if_pos hp] at hz
    obtain ⟨q1, q2⟩ := Prod.mk.inj hz
    subst q1 q2
    have HP := Lib.hid (fun w => Tryz.strings_HasPrefix s ⟨#[47]⟩ w)
    rw [show (⟨#[47]⟩ : ByteArray).data.toList = [47] from rfl, hp] at HP
    clear hz hp
    go_enter Tryz.func48, Tryz.ntmps48
    go_wp2_with (go_at_call 66; (with_reducible refine (HP.out _).mono ?_); rintro e w' ⟨rfl, hw⟩; rw [hw]; clear hw)
    go_ret2
    exact ⟨rfl, Chg.refl _ _⟩
  · rw [if_neg (by rw [hp]; decide)] at hz
    by_cases h8 : 8192 < s.size
    · rw [if_pos h8] at hz
      obtain ⟨q1, q2⟩ := Prod.mk.inj hz
      subst q1 q2
      have h2 : (8192 : Int) < (s.size : Int) := by omega
      have HP := Lib.hid (fun w => Tryz.strings_HasPrefix s ⟨#[47]⟩ w)
      rw [show (⟨#[47]⟩ : ByteArray).data.toList = [47] from rfl, hp] at HP
      clear hz hp
      go_enter Tryz.func48, Tryz.ntmps48
      go_wp2_with (go_at_call 66; (with_reducible refine (HP.out _).mono ?_); rintro e w' ⟨rfl, hw⟩; rw [hw]; clear hw)
      go_ret2
      exact ⟨rfl, Chg.refl _ _⟩
    · rw [if_neg h8] at hz
      obtain ⟨q1, q2⟩ := Prod.mk.inj hz
      subst q1 q2
      refine clean_walk s w hE ?_ (by omega) hp
      unfold Lib.hasPrefix at hp
      cases hl : s.data.toList with
      | nil => rw [hl] at hp; simp [List.isPrefixOf] at hp
      | cons c r =>
        have := toList_len s
        rw [hl, List.length_cons] at this
        omega
end Go.Proofs.YtjndgkbikhndoaaGreatDoor
