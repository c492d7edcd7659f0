/- The library's strings.IndexAny at two bytes, of whatever text: where its answer lies. -/
import Derived.Test.YtjndgkbikhndoaaGreatDoorT6
import Derived.Laws.Runes
import Derived.WalkMore
import Derived.Deep.QuietTactic
import Derived.Deep.LoopGhost
namespace Go.Proofs.YtjndgkbikhndoaaGreatDoor
open Go.RowKit Go.ChangeShapes Go.WideShapes
set_option linter.unusedVariables false

set_option maxHeartbeats 4000000 in
set_option maxRecDepth 100000 in
theorem rune_any (r : Int) (w : World) (h1 : 128 ≤ r) (h2 : r ≤ 1114111) (h3 : (r == 65533) = false) :
    Calls Tryz.prog 94 #[.string ⟨#[47, 63]⟩, .int .i32 r] w fun e w' => (∃ v, e = .returned (.int .i64 v)) ∧ Hid (Chg [] w w') := by
  have HV := Lib.hid (fun w => Tryz.utf8_ValidRune r w)
  have hr1 : ¬ r < 128 := by omega
  have hr0 : (0 : Int) ≤ r := by omega
  cases hv : Lib.validRune r
  · rw [hv] at HV
    go_enter Tryz.func94, Tryz.ntmps94
    go_wp2_with (go_at_call 120; (with_reducible refine (HV.out _).mono ?_); rintro e w' ⟨rfl, rfl⟩)
    go_ret
    exact ⟨⟨_, rfl⟩, Chg.refl _ _⟩
  · rw [hv] at HV
    have hu : Utf8.valid r = true := by
      unfold Lib.validRune at hv
      have := of_decide_eq_true hv
      unfold Utf8.valid
      simp
      omega
    obtain ⟨q1, q2, q3⟩ := encode_facts r hu h1
    have hconv := fun w => run_convert_int_string (P := Tryz.prog) w 21 9 .i32 r (by rw [Tryz.underlying21]; rfl) Tryz.underlying9
    generalize Utf8.encode r = rs at *
    by_cases hm : rs.size = 2
    · have hm2 : (rs.size : Int) = 2 := by omega
      obtain ⟨c, hc⟩ : ∃ c, rs[1]'(by omega) = c := ⟨_, rfl⟩
      have hc2 : 128 ≤ c.toNat := by
        have := q3 (by omega)
        rw [← hc]
        simp only [hm] at this
        exact this
      have hne : ((((⟨#[47, 63]⟩ : ByteArray)[1]'(by decide)).toNat : Int) != (c.toNat : Int)) = true := by
        have : ((63 : Int) != (c.toNat : Int)) = true := bne_iff_ne.2 (by omega)
        exact this
      have HI := Lib.hid (fun w => Tryz.strings_IndexByte ⟨#[]⟩ (c.toNat : Int) w)
      rw [show Lib.indexByte (⟨#[]⟩ : ByteArray).data.toList ((c.toNat : Int)).toNat.toUInt8 = -1 from rfl] at HI
      have hs2 : ∀ w, (Instr.slice 9 (.string ⟨#[47, 63]⟩) (some (.int .i64 2)) none none).run Tryz.prog w = .ok (.string ⟨#[]⟩) w := fun w => slice_from ⟨#[47, 63]⟩ 2 w (by decide)
      have hw2 : IntKind.i64.wrap 2 = 2 := by decide
      clear q1 q2 q3
      go_enter Tryz.func94, Tryz.ntmps94
      go_wp2_with (go_at_call 120; (with_reducible refine (HV.out _).mono ?_); rintro e w' ⟨rfl, rfl⟩)
      go_step3
      go_wp2
      go_loopw [9] (fun i wr => i = .int .i64 1 ∧ wr = w') (fun _ _ => 0)
      case atStart => exact ⟨by simp, rfl⟩
      case round =>
        obtain ⟨rfl, rfl⟩ := hrel
        go_wp2
        go_step3
        go_wp2
        go_quiet (fail)
        go_wp2
        go_quiet ((go_at_call 119; exact (HI.out _).mono fun _ _ ⟨he, hm⟩ => ⟨he, _, hm⟩))
        go_wp2
        rw [Exit.noGoto_ret]
        try simp only [Exit.inBlock]
        go_wp2
        rw [Exit.noGoto_ret]
        go_ret
        exact ⟨⟨_, rfl⟩, (Chg.refl _ _).drewN _⟩
    · have hm2 : ¬ (rs.size : Int) - 1 < 2 := by omega
      have hq4 : (rs.size : Int) ≤ 4 := by omega
      clear q1 q2 q3
      go_enter Tryz.func94, Tryz.ntmps94
      go_wp2_with (go_at_call 120; (with_reducible refine (HV.out _).mono ?_); rintro e w' ⟨rfl, rfl⟩)
      go_step3
      go_wp2
      go_loopw [9] (fun i wr => i = .int .i64 (rs.size - 1) ∧ wr = w') (fun _ _ => 0)
      case atStart => exact ⟨rfl, rfl⟩
      case round =>
        obtain ⟨rfl, rfl⟩ := hrel
        go_wp2
        rw [Exit.noGoto_ret]
        go_ret
        exact ⟨⟨_, rfl⟩, Chg.refl _ _⟩
set_option maxHeartbeats 4000000 in
set_option maxRecDepth 100000 in
theorem rune_err (s : ByteArray) (w : World) (hs : s.size ≤ 8) (hascii : ∀ (j : Nat) b, s.data.toList[j]? = some b → b.toNat < 128) :
    Calls Tryz.prog 94 #[.string s, .int .i32 65533] w fun e w' => (∃ v, e = .returned (.int .i64 v)) ∧ Hid (Chg [] w w') := by
  have HA := Lib.hid hascii
  clear hascii
  go_enter Tryz.func94, Tryz.ntmps94
  go_wp2
  go_loopg [5, 6] s.size (fun g _ _ wx => ∃ i : Nat, i + g = s.size ∧ wx = w.iter s i)
  case atStart => exact ⟨0, by omega, rfl⟩
  case round =>
    obtain ⟨i, hig, rfl⟩ := hrel
    cases gk with
    | zero =>
      obtain rfl : i = s.size := by omega
      have hnx := run_next_end (P := Tryz.prog) w s s.size
      go_wp2
      go_ret
      exact ⟨⟨_, rfl⟩, (Chg.refl [] w).alloc _⟩
    | succ g =>
      have hi : i < s.size := by omega
      obtain ⟨x, hx⟩ : ∃ x : UInt8, s[i]'hi = x := ⟨_, rfl⟩
      have hx128 : x.toNat < 128 := HA.out i x (by rw [← hx]; exact toList_get s i hi)
      have hnx := fun ty => run_next_ascii (P := Tryz.prog) w s i ty hi (by rw [hx]; exact hx128)
      rw [hx] at hnx
      have hne : ((x.toNat : Int) == 65533) = false := beq_eq_false_iff_ne.2 (by omega)
      clear hx
      go_wp2
      go_roundg g
      case measure => omega
      case rel => exact ⟨i + 1, by omega, rfl⟩
theorem rune_whole (r : Int) (w : World) (h0 : 0 ≤ r) (h2 : r ≤ 1114111) :
    Calls Tryz.prog 94 #[.string ⟨#[47, 63]⟩, .int .i32 r] w fun e w' => (∃ v, e = .returned (.int .i64 v)) ∧ Hid (Chg [] w w') := by
  by_cases h1 : 128 ≤ r
  · by_cases h3 : r = 65533
    · subst h3
      exact rune_err ⟨#[47, 63]⟩ w (by decide) (by
        intro j b hb
        match j, hb with
        | 0, hb => injection hb with hb; rw [← hb]; decide
        | 1, hb => injection hb with hb; rw [← hb]; decide)
    · exact rune_any r w h1 h2 (beq_eq_false_iff_ne.2 h3)
  · refine (Tryz.strings_IndexRune_ascii ⟨#[47, 63]⟩ r w h0 (by omega)).mono ?_
    rintro e w' ⟨rfl, rfl⟩
    exact ⟨⟨_, rfl⟩, Chg.refl _ _⟩
set_option maxHeartbeats 4000000 in
set_option maxRecDepth 100000 in
theorem idx_short (s : ByteArray) (w : World) (hs : s.size ≤ 8) :
    Calls Tryz.prog 69 #[.string s, .string ⟨#[47, 63]⟩] w fun e w' => (∃ v : Int, e = .returned (.int .i64 v) ∧ -1 ≤ v ∧ v < s.size) ∧ Hid (Chg [] w w') := by
  have h8z : decide ((8 : Int) < (s.size : Int)) = false := decide_eq_false (by omega)
  go_enter Tryz.func69, Tryz.ntmps69
  go_wp2_with (go_at_call 95; (with_reducible refine (Tryz.strings_shouldUseASCIISet _ _).mono ?_); rintro e w' ⟨rfl, hw⟩; rw [hw, h8z])
  go_loopg [9, 10] s.size (fun g _ _ wx => ∃ pos : Nat, s.size ≤ pos + g ∧ wx.heap[w.heap.size]? = some (.stringIter s pos) ∧ Hid (Chg [] w wx))
  case atStart => exact ⟨0, by omega, World.iter_heap w s 0, Lib.hid ((Chg.refl [] w).alloc _)⟩
  case round =>
    obtain ⟨pos, hfu, hit, HC⟩ := hrel
    by_cases hps : pos < s.size
    · obtain ⟨g', rfl⟩ : ∃ g', gk = g' + 1 := ⟨gk - 1, by omega⟩
      have hnx : ∀ ty, (Instr.next (.pointer (some ⟨w.heap.size, 0, none⟩)) true ty).run Tryz.prog wr = _ := fun ty => Lib.run_next_any_at wr w.heap.size s pos ty hit hps
      have hwd := Lib.width_pos s pos
      have hrl := Lib.rune_le s pos
      generalize (Utf8.decode s pos).1 = R at hnx hrl
      generalize (Utf8.decode s pos).2 = K at hnx hwd
      have hit2 := Lib.iterAt_heap wr w.heap.size s pos (pos + K) hit
      have HC2 : Hid (Chg [] w (wr.iterAt w.heap.size s (pos + K))) := Lib.hid (Chg.of_below (Lib.below_iterAt HC.out.below (k := w.heap.size) (Nat.le_refl _) s (pos + K)))
      generalize wr.iterAt w.heap.size s (pos + K) = W at hnx hit2 HC2
      have hps2 : (pos : Int) < (s.size : Int) := by omega
      have hlt := HC2.out.size
      have hlt2 : w.heap.size < W.heap.size := (Array.getElem?_eq_some_iff.1 hit2).1
      have HI := Lib.hid hit2
      clear hit hit2
      go_wp2_with fail
      refine (rune_whole (R : Int) _ (by omega) (by omega)).mono ?_
      rintro e w2 ⟨⟨v, rfl⟩, H2⟩
      have HC3 := Lib.hid (HC2.out.trans H2.out (by simp))
      have HI3 := Lib.hid ((H2.out.block _ hlt2 (by simp)).trans HI.out)
      by_cases hv : 0 ≤ v
      · go_wp2
        go_ret
        exact ⟨⟨_, rfl, by omega, by omega⟩, HC3.out⟩
      · go_wp2
        go_roundg g'
        case measure => omega
        case rel => exact ⟨pos + K, by omega, HI3.out, HC3⟩
    · have hnx : ∀ ty, (Instr.next (.pointer (some ⟨w.heap.size, 0, none⟩)) true ty).run Tryz.prog wr = _ := fun ty => Lib.run_next_end_at wr w.heap.size s pos ty hit hps
      go_wp2
      go_ret
      exact ⟨⟨_, rfl, by omega, by omega⟩, HC.out⟩
theorem indexAny_lt (l cs : List UInt8) : Lib.indexAny l cs < (l.length : Int) ∨ l = [] := by
  induction l with
  | nil => exact .inr rfl
  | cons b l ih =>
    left
    unfold Lib.indexAny
    rw [List.length_cons]
    split
    · omega
    · split
      · omega
      · rcases ih with h | h
        · omega
        · rename_i h2 h3
          rw [h] at h3
          exact absurd (beq_self_eq_true (-1 : Int)) h3
/-- Where the first of the bytes / and ? stands; -1: there is none. -/
def IxOK (l : List UInt8) (v : Int) : Prop := -1 ≤ v ∧ (v < l.length) ∧ ((8 < l.length ∨ (∀ b ∈ l, b.toNat < 128)) → v = Lib.indexAny l [47, 63])
theorem ixok_any (l : List UInt8) : IxOK l (Lib.indexAny l [47, 63]) := by
  refine ⟨Lib.indexAny_ge _ _, ?_, fun _ => rfl⟩
  rcases indexAny_lt l [47, 63] with h | h
  · exact h
  · rw [h]; decide
theorem zv124 : (Tryz.prog.info? 124).map (fun i => (i.zero, i.size)) = some (some (.agg (Array.replicate 256 (.bool false))), 256) := by kernel_rfl
theorem index_any (s : ByteArray) (w : World) (hs : s.size ≤ 1048576) :
    Calls Tryz.prog 69 #[.string s, .string ⟨#[47, 63]⟩] w fun e w' => (∃ v : Int, e = .returned (.int .i64 v) ∧ IxOK s.data.toList v) ∧ Hid (Chg [] w w') := by
  by_cases h8 : s.size ≤ 8
  · by_cases ha : ∀ b ∈ s.data.toList, b.toNat < 128
    · refine (Tryz.strings_IndexAny_short s ⟨#[47, 63]⟩ w (by decide) h8 (fun j b hb => ha b (List.mem_of_getElem? hb))).mono ?_
      rintro e w' ⟨rfl, p, rfl⟩
      exact ⟨⟨_, rfl, ixok_any _⟩, (Chg.refl [] w).alloc _⟩
    · refine (idx_short s w h8).mono ?_
      rintro e w' ⟨⟨v, rfl, h1, h2⟩, H⟩
      refine ⟨⟨v, rfl, h1, by rw [toList_len]; exact h2, fun h => ?_⟩, H⟩
      rcases h with h | h
      · rw [toList_len] at h; omega
      · exact absurd h ha
  · refine (Tryz.strings_IndexAny_long (zero_of_info zv124).1 s ⟨#[47, 63]⟩ w (by decide) (by omega) (by omega) (by decide) (by
      intro j b hb
      match j, hb with
      | 0, hb => injection hb with hb; rw [← hb]; decide
      | 1, hb => injection hb with hb; rw [← hb]; decide)).mono ?_
    rintro e w' ⟨rfl, rfl⟩
    exact ⟨⟨_, rfl, ixok_any _⟩, ((Chg.refl [] w).alloc _).alloc _⟩
end Go.Proofs.YtjndgkbikhndoaaGreatDoor
