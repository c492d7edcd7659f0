/- Layer 13 (config), in plain words: the numbers of a right configuration. -/
import Derived.Test.YtjndgkbikhndoaaGreatDoorV8
import Derived.Test.YtjndgkbikhndoaaGreatDoorV9
namespace Go.Proofs.YtjndgkbikhndoaaGreatDoor
open Go.RowKit Go.ChangeShapes Go.WideShapes
set_option linter.unusedVariables false
set_option linter.unusedSimpArgs false

theorem HtsAt.chg {w w' : World} {c : Cf} {v : Value} (h : HtsAt w c v) (hc : Chg [] w w') : HtsAt w' c v := ⟨h.hs.chg hc, h.hn, h.hc⟩
/-- What a right configuration's numbers are. -/
structure Rgt (c : Cf) : Prop where
  h1 : 1 ≤ c.hosts.length
  h2 : c.hosts.length ≤ 16
  r1 : 1 ≤ c.routes.length
  r2 : c.routes.length ≤ 16
  ho : c.hosts.all htOK = true
  nd : (c.hosts.map (fun h => h.name)).Nodup
  ro : c.routes.all (fun r => routeOK r c.hosts.length) = true
  pa : pathOK c = true
  nu : allR c.nums = true
theorem rgt_of {c : Cf} (h : rightB c = true) : Rgt c := by
  unfold rightB at h
  simp only [Bool.and_eq_true, decide_eq_true_eq] at h
  obtain ⟨⟨⟨⟨⟨⟨⟨h1, h2⟩, r1, r2⟩, ho⟩, nd⟩, ro⟩, pa⟩, nu⟩ := h
  exact ⟨h1, h2, r1, r2, ho, nd, ro, pa, nu⟩
theorem Rgt.caps {c : Cf} (h : Rgt c) : ∀ x, x ∈ c.hosts → 1 ≤ x.cap ∧ x.cap ≤ 64 := by
  intro x hx
  have := List.all_eq_true.1 h.ho x hx
  unfold htOK allR inR at this
  simp at this
  omega
theorem Rgt.nums {c : Cf} (h : Rgt c) : (0 ≤ c.every ∧ c.every ≤ 1000000) ∧ (16 ≤ c.maxHead ∧ c.maxHead ≤ 65536) ∧ (0 ≤ c.maxBody ∧ c.maxBody ≤ 1048576) ∧ (1 ≤ c.maxOut ∧ c.maxOut ≤ 1048576) ∧ (1 ≤ c.clients ∧ c.clients ≤ 256) := by
  have := h.nu
  unfold allR Cf.nums inR M6 at this
  simp at this
  omega
theorem Rgt.capsN {c : Cf} (h : Rgt c) : (c.hosts.length : Int) ≤ capsN c ∧ capsN c ≤ 1024 := by
  have := capsK_bd c h.caps c.hosts.length (Nat.le_refl _)
  rw [capsK_all] at this
  have := h.h2
  omega
theorem wrap_in {n : Int} (h0 : -9223372036854775808 ≤ n) (h1 : n ≤ 9223372036854775807) : IntKind.i64.wrap n = n := by
  unfold IntKind.wrap IntKind.bits IntKind.signed
  simp
  omega
def okN (z : Bool) (n : Int) : Int := if z then n else 0
end Go.Proofs.YtjndgkbikhndoaaGreatDoor
