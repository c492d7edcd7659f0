/- Layer 13 (config), the program: caps. -/
import Derived.Test.YtjndgkbikhndoaaGreatDoorV2
namespace Go.Proofs.YtjndgkbikhndoaaGreatDoor
open Go.RowKit Go.ChangeShapes Go.WideShapes
set_option linter.unusedVariables false

def capsK (c : Cf) (k : Nat) : Int := ((c.hosts.take k).map (fun h => h.cap)).sum
theorem capsK_succ {c : Cf} {k : Nat} {x : Ht} (h : c.hosts[k]? = some x) : capsK c (k + 1) = capsK c k + x.cap := by
  unfold capsK
  rw [List.take_add_one, h, List.map_append, List.sum_append]
  simp
theorem capsK_all (c : Cf) : capsK c c.hosts.length = capsN c := by
  unfold capsK capsN
  rw [List.take_length]
theorem capsK_bd (c : Cf) (hcp : ∀ h, h ∈ c.hosts → 1 ≤ h.cap ∧ h.cap ≤ 64) : ∀ k, k ≤ c.hosts.length → (k : Int) ≤ capsK c k ∧ capsK c k ≤ 64 * k := by
  intro k
  induction k with
  | zero => intro _; unfold capsK; simp
  | succ k ih =>
    intro hk
    obtain ⟨x, hx⟩ : ∃ x, c.hosts[k]? = some x := ⟨_, List.getElem?_eq_getElem (by omega)⟩
    have h1 := ih (by omega)
    have h2 := hcp x (List.mem_of_getElem? hx)
    rw [capsK_succ hx]
    omega
/-- The hosts' slice: what the numbers' functions ask. -/
structure HtsAt (w : World) (c : Cf) (hv : Value) : Prop where
  hs : Tbl w hv 3 (c.hosts.map htRow)
  hn : c.hosts.length ≤ 16
  hc : ∀ h, h ∈ c.hosts → 1 ≤ h.cap ∧ h.cap ≤ 64
set_option maxHeartbeats 8000000 in
set_option maxRecDepth 100000 in
theorem caps_any (c : Cf) (A rv : Value) (w : World) (hC : Hid (HtsAt w c A)) :
    Calls Tryz.prog 39 #[.agg (cfRow c A rv).toArray] w fun e w' => e = .returned (.int .i64 (capsN c)) ∧ Hid (Chg [] w w') := by
  have hl1 : (c.hosts.map htRow).length = c.hosts.length := List.length_map _
  obtain ⟨A, cap, rfl⟩ := hC.out.hs.form
  rw [hl1] at hC ⊢
  have HL1 := Lib.hid hl1
  have hcap := hC.out.hs.cap
  have hhn := hC.out.hn
  clear hl1
  have HC0 := Lib.hid ((Chg.refl [] w).alloc (.cells (cfRow c (.slice A c.hosts.length cap) rv).toArray 36))
  have HCA := Lib.hid (capsK_all c)
  have HBD := Lib.hid (capsK_bd c hC.out.hc)
  change Calls Tryz.prog 39 #[.agg #[.slice A c.hosts.length cap, rv, .int .i64 c.every, .int .i64 c.timeout, .int .i64 c.up, .int .i64 c.down, .string c.path, .int .i64 c.fails, .int .i64 c.base, .int .i64 c.longest, .int .i64 c.share, .int .i64 c.maxHead, .int .i64 c.maxBody, .int .i64 c.maxOut, .int .i64 c.headTime, .int .i64 c.idle, .int .i64 c.life, .int .i64 c.clients]] w _
  go_enter Tryz.func39, Tryz.ntmps39
  go_wp2_with fail
  change Hid (Chg [] w (w.alloc (.cells #[.slice A c.hosts.length cap, rv, .int .i64 c.every, .int .i64 c.timeout, .int .i64 c.up, .int .i64 c.down, .string c.path, .int .i64 c.fails, .int .i64 c.base, .int .i64 c.longest, .int .i64 c.share, .int .i64 c.maxHead, .int .i64 c.maxBody, .int .i64 c.maxOut, .int .i64 c.headTime, .int .i64 c.idle, .int .i64 c.life, .int .i64 c.clients] 36))) at HC0
  generalize w.alloc (.cells #[.slice A c.hosts.length cap, rv, .int .i64 c.every, .int .i64 c.timeout, .int .i64 c.up, .int .i64 c.down, .string c.path, .int .i64 c.fails, .int .i64 c.base, .int .i64 c.longest, .int .i64 c.share, .int .i64 c.maxHead, .int .i64 c.maxBody, .int .i64 c.maxOut, .int .i64 c.headTime, .int .i64 c.idle, .int .i64 c.life, .int .i64 c.clients] 36) = W1 at HC0 ⊢
  go_loopw [3, 9] (fun s i wr => ∃ (k : Nat) (n : Int), i = .int .i64 k ∧ k ≤ c.hosts.length ∧ s = .int .i64 n ∧ Hid (capsK c k = n) ∧ 0 ≤ n ∧ n ≤ 1024 ∧ Hid (Chg [] w wr)) (fun _ i _ => c.hosts.length - (intOf i).toNat)
  case atStart => exact ⟨0, 0, rfl, by omega, rfl, Lib.hid rfl, by omega, by omega, HC0⟩
  case round =>
    obtain ⟨k, n, rfl, hk, rfl, HN, n0, n1, HC⟩ := hrel
    by_cases hlt : k < c.hosts.length
    · obtain ⟨bh, oh, rfl, hbs, hx⟩ := hC.out.hs.at3 (by rw [HL1.out]; omega)
      obtain ⟨x, hxk⟩ : ∃ x, c.hosts[k]? = some x := ⟨_, List.getElem?_eq_getElem hlt⟩
      obtain ⟨q0, q1, q2⟩ := hx k _ _ _ (by rw [List.getElem?_map, hxk]; rfl)
      have q0 := HC.out.cell q0 (by simp)
      have q1 := HC.out.cell q1 (by simp)
      have q2 := HC.out.cell q2 (by simp)
      have hbd := HBD.out (k + 1) (by omega)
      have hcx := hC.out.hc x (List.mem_of_getElem? hxk)
      have hs := capsK_succ hxk
      rw [HN.out] at hs
      rw [hs] at hbd
      have HS := Lib.hid hs
      clear hx hxk hs
      obtain ⟨name, cp, pd⟩ := x
      dsimp only at q0 q1 q2 hbd HS hcx
      have HC2 := Lib.hid (HC.out.alloc (.cells #[.string name, .int .i64 cp, .int .i64 pd] 45))
      have hw : IntKind.i64.wrap (n + cp) = n + cp := by
        unfold IntKind.wrap IntKind.bits IntKind.signed
        simp
        omega
      go_wp2_with fail
      go_roundw
      case rel => exact ⟨k + 1, n + cp, by go_num, by omega, by first | rfl | go_num, HS, by omega, by omega, HC2⟩
      case measure => simp [intOf]; omega
    · obtain rfl : k = c.hosts.length := by omega
      have HR := Lib.hid (show n = capsN c from by rw [← HN.out, HCA.out])
      go_wp2_with fail
      go_ret
      exact ⟨by rw [← HR.out]; rfl, HC.out⟩
end Go.Proofs.YtjndgkbikhndoaaGreatDoor
