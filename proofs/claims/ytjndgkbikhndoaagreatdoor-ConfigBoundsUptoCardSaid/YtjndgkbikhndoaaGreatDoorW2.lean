/- Layer 13 (config): the plain law of ConfigBounds: one more at the first host. -/
import Derived.Test.YtjndgkbikhndoaaGreatDoorVZ
namespace Go.Proofs.YtjndgkbikhndoaaGreatDoor
open Go.RowKit Go.ChangeShapes Go.WideShapes
set_option linter.unusedVariables false

def moreH : List Ht → List Ht
  | [] => []
  | x :: r => ⟨x.name, x.cap + 1, x.pend⟩ :: r
def Cf.more (c : Cf) : Cf := { c with hosts := moreH c.hosts }
theorem moreH_len (l : List Ht) : (moreH l).length = l.length := by cases l <;> rfl
theorem moreH_names (l : List Ht) : (moreH l).map (fun h => h.name) = l.map (fun h => h.name) := by cases l <;> rfl
theorem more_sz {c : Cf} (h : CfSz c) : CfSz c.more := by
  refine ⟨fun x hx => ?_, h.rs, by show (moreH c.hosts).length ≤ _; rw [moreH_len]; exact h.hn, h.rn, h.path⟩
  have hm : x.name ∈ (moreH c.hosts).map (fun h => h.name) := List.mem_map_of_mem (f := fun h : Ht => h.name) hx
  rw [moreH_names] at hm
  obtain ⟨y, hy, e⟩ := List.mem_map.1 hm
  rw [← e]
  exact h.hs y hy
theorem more_right {c : Cf} {x : Ht} {r : List Ht} (h : rightB c = true) (hc : c.hosts = x :: r) (hx : x.cap ≠ 64) : rightB c.more = true := by
  have R := rgt_of h
  have hcap := R.caps x (by rw [hc]; simp)
  have ho := R.ho
  rw [hc, List.all_cons, Bool.and_eq_true] at ho
  refine yes_all ?_ ?_ R.r1 R.r2 ?_ ?_ ?_ R.pa R.nu
  · show 1 ≤ (moreH c.hosts).length
    rw [moreH_len]; exact R.h1
  · show (moreH c.hosts).length ≤ 16
    rw [moreH_len]; exact R.h2
  · show (moreH c.hosts).all htOK = true
    rw [hc]
    show (htOK ⟨x.name, x.cap + 1, x.pend⟩ && r.all htOK) = true
    rw [ho.2, Bool.and_true]
    have h1 := ho.1
    unfold htOK allR inR at h1 ⊢
    simp at h1 ⊢
    refine ⟨h1.1, ?_⟩
    omega
  · show ((moreH c.hosts).map (fun h => h.name)).Nodup
    rw [moreH_names]; exact R.nd
  · show c.routes.all (fun r => routeOK r ((moreH c.hosts).length : Nat)) = true
    rw [moreH_len]; exact R.ro
theorem more_caps {c : Cf} {x : Ht} {r : List Ht} (hc : c.hosts = x :: r) : capsN c.more = capsN c + 1 := by
  show ((moreH c.hosts).map (fun h => h.cap)).sum = (c.hosts.map (fun h => h.cap)).sum + 1
  rw [hc]
  simp [moreH]
  omega
theorem more_conns {c : Cf} {x : Ht} {r : List Ht} (hc : c.hosts = x :: r) : connsN c.more = connsN c + 1 := by
  have h1 := more_caps hc
  show c.clients + capsN c.more + ((moreH c.hosts).length : Nat) = c.clients + capsN c + (c.hosts.length : Nat) + 1
  rw [moreH_len]
  omega
theorem more_timers {c : Cf} {x : Ht} {r : List Ht} (hc : c.hosts = x :: r) : timersN c.more = timersN c + 3 := by
  have h1 := more_caps hc
  show 4 * c.clients + 3 * capsN c.more + 3 * ((moreH c.hosts).length : Nat) + mostN c * c.clients = 4 * c.clients + 3 * capsN c + 3 * (c.hosts.length : Nat) + mostN c * c.clients + 3
  rw [moreH_len]
  omega
theorem more_buf {c : Cf} {x : Ht} {r : List Ht} (h : rightB c = true) (hc : c.hosts = x :: r) : bufN c < bufN c.more := by
  have h1 := more_caps hc
  have R := (rgt_of h).nums
  show bufN c < c.clients * (2 * c.maxHead + c.maxBody + c.maxOut + 8192) + capsN c.more * (c.maxHead + c.maxBody + 8192)
  unfold bufN
  rw [h1, Int.add_mul]
  omega
/-- The bounds of a right configuration are small and, with a full first host, great enough. -/
theorem full_conns {c : Cf} {x : Ht} {r : List Ht} (h : rightB c = true) (hc : c.hosts = x :: r) (hx : x.cap = 64) : 64 < connsN c := by
  have R := rgt_of h
  have hn := R.nums
  have hk := capsK_bd c R.caps
  have h1 : (64 : Int) ≤ capsN c := by
    unfold capsN
    rw [hc, List.map_cons, List.sum_cons, hx]
    have : ∀ l : List Ht, (∀ y, y ∈ l → 1 ≤ y.cap) → 0 ≤ (l.map (fun h => h.cap)).sum := by
      intro l
      induction l with
      | nil => intro _; simp
      | cons y l ih =>
        intro hl
        have h1 := hl y (by simp)
        have h2 := ih (fun z hz => hl z (by simp [hz]))
        rw [List.map_cons, List.sum_cons]
        omega
    have := this r (fun y hy => (R.caps y (by rw [hc]; simp [hy])).1)
    omega
  unfold connsN
  omega
theorem rgt_pos {c : Cf} (h : Rgt c) : 1 < connsN c ∧ connsN c ≤ 1300 ∧ 0 < bufN c := by
  have hn := h.nums
  have hk := h.capsN
  have h1 := h.h1
  have h2 := h.h2
  have m1 : 0 ≤ c.clients * (2 * c.maxHead + c.maxBody + c.maxOut + 8192) := Int.mul_nonneg (by omega) (by omega)
  have m2 : 0 < capsN c * (c.maxHead + c.maxBody + 8192) := Int.mul_pos (by omega) (by omega)
  unfold connsN bufN
  omega
end Go.Proofs.YtjndgkbikhndoaaGreatDoor
