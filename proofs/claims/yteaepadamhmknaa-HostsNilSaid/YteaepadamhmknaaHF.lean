/- The walk of HostsNil. -/
import Derived.Test.YteaepadamhmknaaHE
namespace Go.Proofs.Yteaepadamhmknaa
open Go.RowKit
set_option linter.unusedVariables false
theorem hostsNil_walk (w : World) (now : Int) (w1 : (Lit.int .i64 now).wf = true) (host : Int) (w2 : (Lit.int .i64 host).wf = true) :
    Calls Try.prog 6 #[.int .i64 now, .int .i64 host] w fun e w' => e = .returned (.bool true) ∧ Below w.heap.size w w' := by
  clear w1 w2
  by_cases hbad : now < 0 ∨ 4611686018427387904 < now
  · have HB := Lib.hid hbad
    clear hbad
    go_enter Try.func6, Try.ntmps6
    go_wp2_with (first | (go_at_call 14; (with_reducible refine (result_bad _ now host _ HB.out _).mono ?_); rintro e w' ⟨rfl, rfl⟩) | (go_at_call 20; (with_reducible refine (mark_bad _ now host _ HB.out _).mono ?_); rintro e w' ⟨rfl, rfl⟩) | (go_at_call 16; (with_reducible refine (usable_bad _ now HB.out _).mono ?_); rintro e w' ⟨rfl, rfl⟩) | (go_at_call 21; (with_reducible refine (rmoment_no now HB.out _).mono ?_); rintro e w' ⟨rfl, rfl⟩) | (go_at_call 17; (with_reducible refine (ejected_nil _).mono ?_); rintro e w' ⟨rfl, rfl⟩))
    (refine (speaks18_any _).mono ?_)
    rintro e w3 ⟨rfl, HQ⟩
    go_wp2_with fail
    go_ret
    exact ⟨rfl, HQ.out.below⟩
  · have n0 : 0 ≤ now := by omega
    have n1 : now ≤ 4611686018427387904 := by omega
    clear hbad
    go_enter Try.func6, Try.ntmps6
    go_wp2_with (first | (go_at_call 14; (with_reducible refine (result_nil now host _ n0 n1 _).mono ?_); rintro e w' ⟨rfl, rfl⟩) | (go_at_call 20; (with_reducible refine (mark_nil now host _ n0 n1 _).mono ?_); rintro e w' ⟨rfl, rfl⟩) | (go_at_call 16; (with_reducible refine (usable_nil now n0 n1 _).mono ?_); rintro e w' ⟨rfl, rfl⟩) | (go_at_call 21; (with_reducible refine (rmoment_yes now n0 n1 _).mono ?_); rintro e w' ⟨rfl, rfl⟩) | (go_at_call 17; (with_reducible refine (ejected_nil _).mono ?_); rintro e w' ⟨rfl, rfl⟩))
    (refine (speaks18_any _).mono ?_)
    rintro e w3 ⟨rfl, HQ⟩
    go_wp2_with fail
    go_ret
    exact ⟨rfl, HQ.out.below⟩
end Go.Proofs.Yteaepadamhmknaa
