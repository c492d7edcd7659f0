/- A whole table is appended to nothing. -/
import Derived.Test.YtjndgkbikhndoaaGreatDoorVD
namespace Go.Proofs.YtjndgkbikhndoaaGreatDoor
open Go.RowKit Go.ChangeShapes Go.WideShapes
set_option linter.unusedVariables false

theorem flat_inv {k : Nat} : ∀ (rows : List (List Value)), (∀ r, r ∈ rows → r.length = k) → ∀ (j : Nat) (u : Value), rows.flatten[j]? = some u → ∃ (i : Nat) (r : List Value) (t : Nat), rows[i]? = some r ∧ r[t]? = some u ∧ j = i * k + t
  | [], _, j, u, h => by simp at h
  | r :: rows, hk, j, u, h => by
    have hr := hk r (by simp)
    rw [List.flatten_cons, List.getElem?_append] at h
    split at h
    · exact ⟨0, r, j, rfl, h, by omega⟩
    · obtain ⟨i, r', t, h1, h2, h3⟩ := flat_inv rows (fun x hx => hk x (by simp [hx])) _ u h
      refine ⟨i + 1, r', t, h1, h2, ?_⟩
      rw [Nat.add_mul]
      omega
theorem flat_len {k : Nat} : ∀ (rows : List (List Value)), (∀ r, r ∈ rows → r.length = k) → rows.flatten.length = rows.length * k
  | [], _ => by simp
  | r :: rows, hk => by
    have hr := hk r (by simp)
    have := flat_len rows (fun x hx => hk x (by simp [hx]))
    rw [List.flatten_cons, List.length_append, this, hr, List.length_cons, Nat.add_mul]
    omega
theorem run_allT (T e k bytes : Nat) (zv : Value) (ty B : Nat) (w : World) (rows : List (List Value)) (bh oh cap : Nat) (hT : Tryz.prog.underlying T = some (.slice e))
    (hinfo : (Tryz.prog.info? e).map (fun i => (i.zero, i.size, i.bytes)) = some (some zv, k, bytes)) (hzk : zv.cells.size = k) (hk0 : 0 < k)
    (hx : ∀ (i : Nat) (r : List Value), rows[i]? = some r → ∀ (j : Nat) (x : Value), r[j]? = some x → w.cell? ⟨bh, oh + i * k + j, none⟩ = some x)
    (hk : ∀ r, r ∈ rows → r.length = k) (h1 : ∀ r, r ∈ rows → ∀ u, u ∈ r → u.oneCell' = true)
    (hl : rows.length ≤ 4000000) (hby : rows.length * bytes ≤ 140737488355328) (hB : B ≤ w.heap.size) :
    ∃ v' w', (Builtin.append_ #[T, T] ty #[.slice none 0 0, .slice (some ⟨bh, oh, none⟩) rows.length cap]).run Tryz.prog w = .ok v' w' ∧ OwnT B e k w' v' rows ∧ w.grownBy w' none := by
  obtain ⟨i0, hi, hz0, hz1, hz2⟩ := info_parts hinfo
  obtain ⟨v', w', q1, q2, q3, _⟩ := run_append_own (P := Tryz.prog) w B T ty e i0 _ k bytes hT hi hz0 hz1 hz2 hzk hk0 (.slice none 0 0) 0 [] (World.ownsRow_nil _ _ _ _) ⟨bh, oh, none⟩ rows.length cap rows.flatten (flat_len rows hk) (fun j u hj => by
    obtain ⟨i, r, t, a1, a2, a3⟩ := flat_inv rows hk j u hj
    rw [Addr.add_lit, a3, ← Nat.add_assoc]
    exact hx i r a1 t u a2) (fun u hu => by
    obtain ⟨r, hr, hu⟩ := List.mem_flatten.1 hu
    exact h1 r hr u hu) (by unfold maxLen; omega) (by rw [Nat.zero_add]; exact hby) hB
  refine ⟨v', w', q1, ?_, q3⟩
  unfold OwnT
  simpa using q2
end Go.Proofs.YtjndgkbikhndoaaGreatDoor
