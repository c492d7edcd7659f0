/- Layer 13 (config): little, speaks. -/
import Derived.Test.YtjndgkbikhndoaaGreatDoorVA
namespace Go.Proofs.YtjndgkbikhndoaaGreatDoor
open Go.RowKit Go.ChangeShapes Go.WideShapes
set_option linter.unusedVariables false

def litR (per : Int) : Rt := ⟨⟨⟨#[]⟩, ⟨#[47]⟩, [], ⟨#[]⟩, ⟨#[]⟩⟩, [0], 1, per, 1, 1, 0, 1, 1, 0, 0, 1, 0, 0, 1, 1, 1⟩
def litC (per : Int) : Cf := ⟨[⟨⟨#[97]⟩, 1, 0⟩], [litR per], 0, 1, 1, 1, ⟨#[]⟩, 0, 1, 1, 0, 16, 0, 1, 1, 1, 1, 1⟩
theorem lit_right : rightB (litC 1) = true := by kernel_rfl
theorem lit_wrong : rightB (litC 0) = false := by kernel_rfl
theorem lit_conns : connsN (litC 1) = 3 := by kernel_rfl
theorem lit_sz (per : Int) : CfSz (litC per) := by
  refine ⟨?_, ?_, Nat.succ_le_of_lt (by show 0 < 1048576; omega), Nat.succ_le_of_lt (by show 0 < 1048576; omega), Nat.zero_le _⟩
  · intro h hh
    rw [show h = ⟨⟨#[97]⟩, 1, 0⟩ from by simpa [litC] using hh]
    show 1 ≤ 1048576
    omega
  · intro r hr
    rw [show r = litR per from by simpa [litC] using hr]
    exact ⟨⟨Nat.zero_le _, by show 1 ≤ 1048576; omega, fun t ht => by simp [litR] at ht, Nat.zero_le _, Nat.zero_le _, Nat.zero_le _⟩, by show 1 ≤ 1048576; omega⟩
theorem blk_row {w : World} {b T : Nat} {vs cs : List Value} (hb : Blk w b vs T) : Blk (w.setRow b cs.toArray) b cs T := setRow_heap w b vs.toArray cs.toArray T (0, 0) hb
theorem blk_other {w : World} {b g T : Nat} {vs : List Value} {cs : Array Value} (hb : Blk w b vs T) (h : b ≠ g) : Blk (w.setRow g cs) b vs T := by
  show (w.heap.modify g _)[b]? = _
  rw [Array.getElem?_modify, if_neg (fun e => h e.symm)]
  exact hb
theorem chg_row {a w : World} {g : Nat} {cs : Array Value} (h : Chg [] a w) (hg : a.heap.size ≤ g) : Chg [] a (w.setRow g cs) :=
  h.trans (F' := [g]) ⟨rfl, rfl, rfl, by rw [size_setRow]; exact Nat.le_refl _, fun k hk hn => by
    show (w.heap.modify g _)[k]? = _
    rw [Array.getElem?_modify, if_neg (fun e => hn (by rw [e]; simp))]⟩ (by intro i hi hlt; simp at hi; omega)
def zeroCf : List Value := [.slice none 0 0, .slice none 0 0, .int .i64 0, .int .i64 0, .int .i64 0, .int .i64 0, .string ⟨#[]⟩, .int .i64 0, .int .i64 0, .int .i64 0, .int .i64 0, .int .i64 0, .int .i64 0, .int .i64 0, .int .i64 0, .int .i64 0, .int .i64 0, .int .i64 0]
/-- The little one's cells. -/
def litRow (p1 : Nat) : List Value := [.string ⟨#[]⟩, .string ⟨#[47]⟩, .slice none 0 0, .string ⟨#[]⟩, .string ⟨#[]⟩, .slice (some ⟨p1, 0, none⟩) 1 1, .int .i64 1, .int .i64 1, .int .i64 1, .int .i64 1, .int .i64 0, .int .i64 1, .int .i64 1, .int .i64 0, .int .i64 0, .int .i64 1, .int .i64 0, .int .i64 0, .int .i64 1, .int .i64 1, .int .i64 1]
theorem litRow_eq (p1 : Nat) : litRow p1 = rtRow (litR 1) (.slice none 0 0) (.slice (some ⟨p1, 0, none⟩) 1 1) := rfl
theorem lit_at {w : World} {p1 p3 p4 : Nat} {per : Int} (h1 : Blk w p1 [.int .i64 0] 3) (h3 : Blk w p3 [.string ⟨#[97]⟩, .int .i64 1, .int .i64 0] 45) (h4 : Blk w p4 (rtRow (litR per) (.slice none 0 0) (.slice (some ⟨p1, 0, none⟩) 1 1)) 42) :
    CfAt w (litC per) (.slice (some ⟨p3, 0, none⟩) 1 1) (.slice (some ⟨p4, 0, none⟩) 1 1) [(.slice none 0 0, .slice (some ⟨p1, 0, none⟩) 1 1)] := by
  refine ⟨Tbl.ofBlk (rows := (litC per).hosts.map htRow) h3 rfl ?_, ⟨rfl, Tbl.ofBlk (rows := [rtRow (litR per) (.slice none 0 0) (.slice (some ⟨p1, 0, none⟩) 1 1)]) h4 (by simp) ?_, ?_⟩⟩
  · intro r hr
    obtain ⟨x, -, rfl⟩ := List.mem_map.1 hr
    rfl
  · intro r hr
    rw [List.mem_singleton.1 hr]
    rfl
  · intro i r p hr hp
    match i, hr, hp with
    | 0, hr, hp =>
      obtain rfl : litR per = r := by simpa [litC] using hr
      obtain rfl := Option.some.inj hp
      exact ⟨⟨none, 0, rfl, Nat.le_refl _, fun h => by simp [strRows, litR] at h⟩, Tbl.ofBlk (rows := intRows [0]) h1 rfl (by intro r hr; rw [List.mem_singleton.1 hr]; rfl)⟩
    | i + 1, hr, hp => simp at hp
set_option maxRecDepth 100000 in
theorem results38 (tmps : Array Value) (w : World) (b : Nat) (vs : List Value) (ht : tmps.getD 0 undef = .pointer (some ⟨b, 0, none⟩)) (hb : Blk w b vs 36) (hl : vs.length = 18) :
    (results Tryz.f38 tmps).run Tryz.prog w = .ok (.agg vs.toArray) w := by
  have hres : Tryz.f38.results = #[.cell 0 36] := by kernel_rfl
  have hi : (Tryz.prog.info? 36).map (·.size) = some vs.length := by
    rw [hl]
    kernel_rfl
  have hv := load_row (w := w) (b := b) (o := 0) 36 _ vs Tryz.underlying36 rfl hi (fun j x hj => by rw [Nat.zero_add]; exact hb.cell j x hj)
  have ht' : tmps[0]?.getD undef = .pointer (some ⟨b, 0, none⟩) := by rw [← Array.getD_eq_getD_getElem?]; exact ht
  simp [results, ht', hv, asAddr]
set_option maxHeartbeats 8000000 in
set_option maxRecDepth 100000 in
theorem little_any (w : World) :
    Calls Tryz.prog 38 #[] w fun e w' => (∃ p3 p4 p1 : Nat, e = .returned (.agg (cfRow (litC 1) (.slice (some ⟨p3, 0, none⟩) 1 1) (.slice (some ⟨p4, 0, none⟩) 1 1)).toArray) ∧ Hid (Blk w' p1 [.int .i64 0] 3) ∧ Hid (Blk w' p3 [.string ⟨#[97]⟩, .int .i64 1, .int .i64 0] 45) ∧ Hid (Blk w' p4 (rtRow (litR 1) (.slice none 0 0) (.slice (some ⟨p1, 0, none⟩) 1 1)) 42) ∧ w.heap.size ≤ p4 ∧ p4 ≠ p3 ∧ p4 ≠ p1) ∧ Hid (Chg [] w w') := by
  have HB0 := Lib.hid (Blk.new w zeroCf 36)
  have HST := Lib.hid (run_storeVar_new (P := Tryz.prog) ((w.alloc (.cells zeroCf.toArray 36)).alloc (.cells #[.int .i64 0] 3)) 42 zeroRt (litRow (w.heap.size + 1)).toArray (by kernel_rfl) rfl (by simp [Value.oneCell', litRow]))
  go_enter Tryz.func38, Tryz.ntmps38
  go_upto_region 2 with (refine wpList_store_row rfl 42 _ _ rfl ⟨w.heap.size + 1 + 1, 0, none⟩ _ _ rfl rfl (by have := HST.out; simp only [World.size_alloc] at this; exact this) ?_)
  have HA0 := Lib.hid ((HB0.out.alloc (.cells #[.int .i64 0] 3)).alloc (.cells (litRow (w.heap.size + 1)).toArray 42))
  have HA1 := Lib.hid ((Blk.new (w.alloc (.cells zeroCf.toArray 36)) [.int .i64 0] 3).alloc (.cells (litRow (w.heap.size + 1)).toArray 42))
  have HA2 := Lib.hid (Blk.new ((w.alloc (.cells zeroCf.toArray 36)).alloc (.cells #[.int .i64 0] 3)) (litRow (w.heap.size + 1)) 42)
  have HC := Lib.hid ((((Chg.refl [] w).alloc (.cells zeroCf.toArray 36)).alloc (.cells #[.int .i64 0] 3)).alloc (.cells (litRow (w.heap.size + 1)).toArray 42))
  have HZ := Lib.hid (show (((w.alloc (.cells zeroCf.toArray 36)).alloc (.cells #[.int .i64 0] 3)).alloc (.cells (litRow (w.heap.size + 1)).toArray 42)).heap.size = w.heap.size + 1 + 1 + 1 from by simp)
  rw [show (w.alloc (.cells zeroCf.toArray 36)).heap.size = w.heap.size + 1 by simp] at HA1
  rw [show ((w.alloc (.cells zeroCf.toArray 36)).alloc (.cells #[.int .i64 0] 3)).heap.size = w.heap.size + 1 + 1 by simp] at HA2
  change Hid (Blk (((w.alloc (.cells zeroCf.toArray 36)).alloc (.cells #[.int .i64 0] 3)).alloc (.cells (litRow (w.heap.size + 1)).toArray 42)) _ _ _) at HA1
  generalize ((w.alloc (.cells zeroCf.toArray 36)).alloc (.cells #[.int .i64 0] 3)).alloc (.cells (litRow (w.heap.size + 1)).toArray 42) = W3 at *
  obtain ⟨p0, hp0⟩ : ∃ p0, w.heap.size = p0 := ⟨_, rfl⟩
  have HP0 := Lib.hid hp0
  rw [hp0] at HA0 HA1 HA2 HZ ⊢
  obtain ⟨p1, hp1⟩ : ∃ p1, p0 + 1 = p1 := ⟨_, rfl⟩
  rw [hp1] at HA1 HA2 HZ ⊢
  have HP1 := Lib.hid hp1
  obtain ⟨p2, hp2⟩ : ∃ p2, p1 + 1 = p2 := ⟨_, rfl⟩
  rw [hp2] at HA2 HZ ⊢
  have HP2 := Lib.hid hp2
  obtain ⟨p3, hp3⟩ : ∃ p3, W3.heap.size = p3 := ⟨_, rfl⟩
  rw [hp3] at HZ
  have HP3 := Lib.hid hp3
  clear hp0 hp1 hp2 hp3 HST HB0
  have HB4 := Lib.hid (HA2.out.alloc (.cells #[.string ⟨#[97]⟩, .int .i64 1, .int .i64 0] 45))
  have HLD : Hid ((loadVar 42 ⟨p2, 0, none⟩).run Tryz.prog (W3.alloc (.cells #[.string ⟨#[97]⟩, .int .i64 1, .int .i64 0] 45)) = .ok (.agg #[.string ⟨#[]⟩, .string ⟨#[47]⟩, .slice none 0 0, .string ⟨#[]⟩, .string ⟨#[]⟩, .slice (some ⟨p1, 0, none⟩) 1 1, .int .i64 1, .int .i64 1, .int .i64 1, .int .i64 1, .int .i64 0, .int .i64 1, .int .i64 1, .int .i64 0, .int .i64 0, .int .i64 1, .int .i64 0, .int .i64 0, .int .i64 1, .int .i64 1, .int .i64 1]) (W3.alloc (.cells #[.string ⟨#[97]⟩, .int .i64 1, .int .i64 0] 45))) := Lib.hid (load_row 42 _ (litRow p1) Tryz.underlying42 rfl (by kernel_rfl) (fun j x hj => by rw [Nat.zero_add]; exact HB4.out.cell j x hj))
  have HB5 := Lib.hid ((HA0.out.alloc (.cells #[.string ⟨#[97]⟩, .int .i64 1, .int .i64 0] 45)).alloc (.cells #[.string ⟨#[]⟩, .string ⟨#[47]⟩, .slice none 0 0, .string ⟨#[]⟩, .string ⟨#[]⟩, .slice (some ⟨p1, 0, none⟩) 1 1, .int .i64 1, .int .i64 1, .int .i64 1, .int .i64 1, .int .i64 0, .int .i64 1, .int .i64 1, .int .i64 0, .int .i64 0, .int .i64 1, .int .i64 0, .int .i64 0, .int .i64 1, .int .i64 1, .int .i64 1] 42))
  have HST : Hid ((storeVar 36 ⟨p0, 0, none⟩ (.agg #[.slice (some ⟨W3.heap.size, 0, none⟩) 1 1, .slice (some ⟨W3.heap.size + 1, 0, none⟩) 1 1, .int .i64 0, .int .i64 1, .int .i64 1, .int .i64 1, .string ⟨#[]⟩, .int .i64 0, .int .i64 1, .int .i64 1, .int .i64 0, .int .i64 16, .int .i64 0, .int .i64 1, .int .i64 1, .int .i64 1, .int .i64 1, .int .i64 1])).run Tryz.prog ((W3.alloc (.cells #[.string ⟨#[97]⟩, .int .i64 1, .int .i64 0] 45)).alloc (.cells #[.string ⟨#[]⟩, .string ⟨#[47]⟩, .slice none 0 0, .string ⟨#[]⟩, .string ⟨#[]⟩, .slice (some ⟨p1, 0, none⟩) 1 1, .int .i64 1, .int .i64 1, .int .i64 1, .int .i64 1, .int .i64 0, .int .i64 1, .int .i64 1, .int .i64 0, .int .i64 0, .int .i64 1, .int .i64 0, .int .i64 0, .int .i64 1, .int .i64 1, .int .i64 1] 42)) = .ok () (((W3.alloc (.cells #[.string ⟨#[97]⟩, .int .i64 1, .int .i64 0] 45)).alloc (.cells #[.string ⟨#[]⟩, .string ⟨#[47]⟩, .slice none 0 0, .string ⟨#[]⟩, .string ⟨#[]⟩, .slice (some ⟨p1, 0, none⟩) 1 1, .int .i64 1, .int .i64 1, .int .i64 1, .int .i64 1, .int .i64 0, .int .i64 1, .int .i64 1, .int .i64 0, .int .i64 0, .int .i64 1, .int .i64 0, .int .i64 0, .int .i64 1, .int .i64 1, .int .i64 1] 42)).setRow p0 #[.slice (some ⟨W3.heap.size, 0, none⟩) 1 1, .slice (some ⟨W3.heap.size + 1, 0, none⟩) 1 1, .int .i64 0, .int .i64 1, .int .i64 1, .int .i64 1, .string ⟨#[]⟩, .int .i64 0, .int .i64 1, .int .i64 1, .int .i64 0, .int .i64 16, .int .i64 0, .int .i64 1, .int .i64 1, .int .i64 1, .int .i64 1, .int .i64 1])) := Lib.hid (run_storeVar_row _ p0 36 36 zeroCf.toArray _ HB5.out (by kernel_rfl) rfl (by simp [Value.oneCell']))
  go_wp2_with (first | refine wpList_load_row rfl 42 _ rfl ⟨p2, 0, none⟩ _ rfl HLD.out ?_ | refine wpList_store_row rfl 36 _ _ rfl ⟨p0, 0, none⟩ _ _ rfl rfl HST.out ?_)
  have hn3 : p0 ≠ W3.heap.size := by have := HP1.out; have := HP2.out; have := HZ.out; have := HP3.out; omega
  have hn4 : p0 ≠ W3.heap.size + 1 := by have := HP1.out; have := HP2.out; have := HZ.out; have := HP3.out; omega
  have hn1 : p1 ≠ p0 := by have := HP1.out; omega
  have hs4 : (W3.alloc (.cells #[.string ⟨#[97]⟩, .int .i64 1, .int .i64 0] 45)).heap.size = W3.heap.size + 1 := by simp
  have hF := blk_row (cs := [.slice (some ⟨W3.heap.size, 0, none⟩) 1 1, .slice (some ⟨W3.heap.size + 1, 0, none⟩) 1 1, .int .i64 0, .int .i64 1, .int .i64 1, .int .i64 1, .string ⟨#[]⟩, .int .i64 0, .int .i64 1, .int .i64 1, .int .i64 0, .int .i64 16, .int .i64 0, .int .i64 1, .int .i64 1, .int .i64 1, .int .i64 1, .int .i64 1]) HB5.out
  have hF1 := blk_other (g := p0) (cs := #[.slice (some ⟨W3.heap.size, 0, none⟩) 1 1, .slice (some ⟨W3.heap.size + 1, 0, none⟩) 1 1, .int .i64 0, .int .i64 1, .int .i64 1, .int .i64 1, .string ⟨#[]⟩, .int .i64 0, .int .i64 1, .int .i64 1, .int .i64 0, .int .i64 16, .int .i64 0, .int .i64 1, .int .i64 1, .int .i64 1, .int .i64 1, .int .i64 1]) ((HA1.out.alloc (.cells #[.string ⟨#[97]⟩, .int .i64 1, .int .i64 0] 45)).alloc (.cells #[.string ⟨#[]⟩, .string ⟨#[47]⟩, .slice none 0 0, .string ⟨#[]⟩, .string ⟨#[]⟩, .slice (some ⟨p1, 0, none⟩) 1 1, .int .i64 1, .int .i64 1, .int .i64 1, .int .i64 1, .int .i64 0, .int .i64 1, .int .i64 1, .int .i64 0, .int .i64 0, .int .i64 1, .int .i64 0, .int .i64 0, .int .i64 1, .int .i64 1, .int .i64 1] 42)) hn1
  have hF3 := blk_other (g := p0) (cs := #[.slice (some ⟨W3.heap.size, 0, none⟩) 1 1, .slice (some ⟨W3.heap.size + 1, 0, none⟩) 1 1, .int .i64 0, .int .i64 1, .int .i64 1, .int .i64 1, .string ⟨#[]⟩, .int .i64 0, .int .i64 1, .int .i64 1, .int .i64 0, .int .i64 16, .int .i64 0, .int .i64 1, .int .i64 1, .int .i64 1, .int .i64 1, .int .i64 1]) ((Blk.new W3 [.string ⟨#[97]⟩, .int .i64 1, .int .i64 0] 45).alloc (.cells #[.string ⟨#[]⟩, .string ⟨#[47]⟩, .slice none 0 0, .string ⟨#[]⟩, .string ⟨#[]⟩, .slice (some ⟨p1, 0, none⟩) 1 1, .int .i64 1, .int .i64 1, .int .i64 1, .int .i64 1, .int .i64 0, .int .i64 1, .int .i64 1, .int .i64 0, .int .i64 0, .int .i64 1, .int .i64 0, .int .i64 0, .int .i64 1, .int .i64 1, .int .i64 1] 42)) (fun e => hn3 e.symm)
  have hF4 := Blk.new (W3.alloc (.cells #[.string ⟨#[97]⟩, .int .i64 1, .int .i64 0] 45)) [.string ⟨#[]⟩, .string ⟨#[47]⟩, .slice none 0 0, .string ⟨#[]⟩, .string ⟨#[]⟩, .slice (some ⟨p1, 0, none⟩) 1 1, .int .i64 1, .int .i64 1, .int .i64 1, .int .i64 1, .int .i64 0, .int .i64 1, .int .i64 1, .int .i64 0, .int .i64 0, .int .i64 1, .int .i64 0, .int .i64 0, .int .i64 1, .int .i64 1, .int .i64 1] 42
  rw [hs4] at hF4
  have hF4 := blk_other (g := p0) (cs := #[.slice (some ⟨W3.heap.size, 0, none⟩) 1 1, .slice (some ⟨W3.heap.size + 1, 0, none⟩) 1 1, .int .i64 0, .int .i64 1, .int .i64 1, .int .i64 1, .string ⟨#[]⟩, .int .i64 0, .int .i64 1, .int .i64 1, .int .i64 0, .int .i64 16, .int .i64 0, .int .i64 1, .int .i64 1, .int .i64 1, .int .i64 1, .int .i64 1]) hF4 (fun e => hn4 e.symm)
  have hFC := chg_row (g := p0) (cs := #[.slice (some ⟨W3.heap.size, 0, none⟩) 1 1, .slice (some ⟨W3.heap.size + 1, 0, none⟩) 1 1, .int .i64 0, .int .i64 1, .int .i64 1, .int .i64 1, .string ⟨#[]⟩, .int .i64 0, .int .i64 1, .int .i64 1, .int .i64 0, .int .i64 16, .int .i64 0, .int .i64 1, .int .i64 1, .int .i64 1, .int .i64 1, .int .i64 1]) ((HC.out.alloc (.cells #[.string ⟨#[97]⟩, .int .i64 1, .int .i64 0] 45)).alloc (.cells #[.string ⟨#[]⟩, .string ⟨#[47]⟩, .slice none 0 0, .string ⟨#[]⟩, .string ⟨#[]⟩, .slice (some ⟨p1, 0, none⟩) 1 1, .int .i64 1, .int .i64 1, .int .i64 1, .int .i64 1, .int .i64 0, .int .i64 1, .int .i64 1, .int .i64 0, .int .i64 0, .int .i64 1, .int .i64 0, .int .i64 0, .int .i64 1, .int .i64 1, .int .i64 1] 42)) (by rw [HP0.out]; exact Nat.le_refl _)
  refine bodyPost_ret (results38 _ _ p0 _ rfl hF rfl) rfl ⟨⟨W3.heap.size, W3.heap.size + 1, p1, rfl, Lib.hid hF1, Lib.hid hF3, Lib.hid hF4, ?_, by omega, ?_⟩, Lib.hid hFC⟩
  · have := HC.out.size
    omega
  · have := HP2.out; have := HZ.out; have := HP3.out
    omega
end Go.Proofs.YtjndgkbikhndoaaGreatDoor
