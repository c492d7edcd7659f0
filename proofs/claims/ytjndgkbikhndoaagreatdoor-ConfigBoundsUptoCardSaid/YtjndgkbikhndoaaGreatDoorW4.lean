/- Layer 13 (config): what ConfigBounds' walk asks of plain words and of its own table. -/
import Derived.Test.YtjndgkbikhndoaaGreatDoorW1
import Derived.Test.YtjndgkbikhndoaaGreatDoorW2
import Derived.Test.YtjndgkbikhndoaaGreatDoorW3
import Derived.Test.YtjndgkbikhndoaaGreatDoorVC
namespace Go.Proofs.YtjndgkbikhndoaaGreatDoor
open Go.RowKit Go.ChangeShapes Go.WideShapes
set_option linter.unusedVariables false

theorem OwnT.blk {B e k : Nat} {w : World} {v : Value} {rows : List (List Value)} (h : OwnT B e k w v rows) (h0 : 0 < rows.length) :
    ∃ g cap cur, v = .slice (some ⟨g, 0, none⟩) rows.length cap ∧ B ≤ g ∧ Blk w g cur e ∧ rows.length ≤ cap ∧ cur.take (rows.length * k) = rows.flatten := by
  rcases h.2 with ⟨rfl, h1⟩ | ⟨g, cap, cur, rfl, hb, hh, h1, h2, h3, h4⟩
  · omega
  · exact ⟨g, cap, cur.toList, rfl, hb, by unfold Blk; simpa using hh, h1, h4⟩
theorem Tbl.of_take {w : World} {g cap e k : Nat} {cur : List Value} {rows : List (List Value)} (hB : Blk w g cur e) (h : cur.take (rows.length * k) = rows.flatten) (hk : ∀ r, r ∈ rows → r.length = k) (hc : rows.length ≤ cap) : Tbl w (.slice (some ⟨g, 0, none⟩) rows.length cap) k rows := by
  refine ⟨_, cap, rfl, hc, fun h0 => ⟨g, 0, rfl, hB.lt, fun i r hr j x hj => ?_⟩⟩
  have hx := flat_get rows hk i r j x hr hj
  rw [← h, List.getElem?_take] at hx
  split at hx
  · rw [Nat.zero_add]
    exact hB.cell _ _ hx
  · cases hx
/-- One more at the first host, in the table. -/
theorem more_tbl {w : World} {g cap : Nat} {cur : List Value} {c : Cf} {x : Ht} {r : List Ht} (hB : Blk w g cur 45) (h : cur.take ((c.hosts.map htRow).length * 3) = (c.hosts.map htRow).flatten) (hx : c.hosts = x :: r) (hc : c.hosts.length ≤ cap) :
    Tbl (w.setCell ⟨g, 1, none⟩ (.int .i64 (x.cap + 1))) (.slice (some ⟨g, 0, none⟩) c.hosts.length cap) 3 (c.more.hosts.map htRow) := by
  have hl : (c.more.hosts.map htRow).length = c.hosts.length := by
    show ((moreH c.hosts).map htRow).length = _
    rw [List.length_map, moreH_len]
  have q := Tbl.of_take (k := 3) (cap := cap) (rows := c.more.hosts.map htRow) (hB.set 1 (.int .i64 (x.cap + 1))) (by
    rw [hl, List.take_set]
    rw [List.length_map] at h
    rw [h]
    show _ = ((moreH c.hosts).map htRow).flatten
    rw [hx]
    rfl) (by intro r hr; obtain ⟨y, -, rfl⟩ := List.mem_map.1 hr; rfl) (by rw [hl]; exact hc)
  rw [hl] at q
  exact q
theorem more_at {w w' : World} {c : Cf} {hv rv v3 : Value} {ps : List (Value × Value)} (h : CfAt w c hv rv ps) (hc : Chg [] w w') (h3 : Tbl w' v3 3 (c.more.hosts.map htRow)) : CfAt w' c.more v3 rv ps := ⟨h3, h.rs.chg hc⟩
theorem most_bd : ∀ (l : List Rt), (∀ x, x ∈ l → (0 ≤ x.retries ∧ x.retries ≤ 5) ∧ (0 ≤ x.hedges ∧ x.hedges ≤ 3)) → ∀ m : Int, 0 ≤ m → m ≤ 9 → 0 ≤ l.foldl (fun m r => max m (r.retries + r.hedges + 1)) m ∧ l.foldl (fun m r => max m (r.retries + r.hedges + 1)) m ≤ 9
  | [], _, m, h0, h1 => ⟨h0, h1⟩
  | x :: l, h, m, h0, h1 => by
    have hx := h x (by simp)
    exact most_bd l (fun y hy => h y (by simp [hy])) _ (by dsimp only; omega) (by dsimp only; omega)
theorem timers_bd {c : Cf} (h : Rgt c) : 0 < timersN c ∧ timersN c ≤ 10000 := by
  have hn := h.nums
  have hk := h.capsN
  have h1 := h.h1
  have h2 := h.h2
  have hm := most_bd c.routes h.tries 0 (by omega) (by omega)
  have hm2 := mul_bd (a := mostN c) (b := c.clients) (m := 9) (n := 256) hm.1 hm.2 (by omega) (by omega)
  unfold timersN
  omega
end Go.Proofs.YtjndgkbikhndoaaGreatDoor
