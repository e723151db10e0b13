/- The reference of layer 9: Check. -/
import Derived.Test.YtbajgbjpaliecaaSc
set_option linter.unusedSimpArgs false
set_option linter.unusedVariables false
namespace Go.Proofs.Ytbajgbjpaliecaa
open Go.RowKit

set_option maxRecDepth 100000 in
set_option maxHeartbeats 4000000 in
theorem srcheck_any (w : World) (c : Cl) : Calls Try.prog 24 #[.agg c.cells] w fun e w' => e = .returned (.int .i64 c.check) ∧ Only (fun _ => False) w w' := by
  obtain ⟨kind, bits, m, k, n⟩ := c
  have HS := Lib.hid in_any
  by_cases hk : kind = 1 ∨ kind = 2 ∨ kind = 3 ∨ kind = 4
  · have hi : inB kind 4 = true := decide_eq_true (by omega)
    rcases hk with rfl | rfl | rfl | rfl
    all_goals
      simp only [Cl.cells]
      go_enter Try.func24, Try.ntmps24
      go_wp2_with (go_at_call 40; refine (HS.out _ _ _).mono ?_; rintro e w' ⟨rfl, rfl⟩)
    all_goals
      go_ret
      refine ⟨?_, (Only.refl _ _).alloc _⟩
      simp_all [Cl.check, inB]
      try omega
  · have hi : inB kind 4 = false := decide_eq_false (by omega)
    have hc : Cl.check ⟨kind, bits, m, k, n⟩ = 15 := by unfold Cl.check; rw [if_neg (by show ¬ kind = 2; omega), if_neg (by show ¬ (kind = 1 ∨ kind = 4); omega), if_neg (by show ¬ kind = 3; omega)]
    rw [hc]
    clear hc hk
    simp only [Cl.cells]
    go_enter Try.func24, Try.ntmps24
    go_wp2_with (go_at_call 40; refine (HS.out _ _ _).mono ?_; rintro e w' ⟨rfl, rfl⟩)
    all_goals
      go_ret
      exact ⟨rfl, (Only.refl _ _).alloc _⟩
end Go.Proofs.Ytbajgbjpaliecaa
