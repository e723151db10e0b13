/- The reference of layer 11: Check. -/
import Derived.Test.YtnaacpopaccjpaaDoorFrF
set_option linter.unusedSimpArgs false
set_option linter.unusedVariables false
namespace Go.Proofs.YtnaacpopaccjpaaDoor
open Go.RowKit Go.Lib

theorem str_nil (s : ByteArray) : s.toList = [] ↔ s = ByteArray.empty := by
  rw [ByteArray.toList_eq]
  constructor
  · intro h
    apply ByteArray.ext
    apply Array.ext'
    exact h
  · rintro rfl
    rfl

set_option maxRecDepth 100000 in
set_option maxHeartbeats 2000000 in
theorem rcheck_any (w : World) (f : Fr) (hb : f.body.size ≤ 140737488351232) : Calls Tryd.prog 10 #[.agg f.cells] w fun e w' => e = .returned (.int .i64 f.check) ∧ Only (fun _ => False) w w' := by
  obtain ⟨kind, own, peer, seq, ack, body⟩ := f
  simp only at hb
  by_cases hk : kind = 1 ∨ kind = 2 ∨ kind = 3
  · rcases hk with rfl | rfl | rfl
    all_goals
      simp only [Fr.cells]
      go_enter Tryd.func10, Tryd.ntmps10
      go_wp2
    all_goals
      go_ret
      refine ⟨?_, (Only.refl _ _).alloc _⟩
      simp_all [Fr.check, Fr.late, str_nil]
      try omega
  · by_cases h1 : kind < 1
    · simp only [Fr.cells]
      have hc : Fr.check ⟨kind, own, peer, seq, ack, body⟩ = 15 := by unfold Fr.check; rw [if_neg (by show ¬ kind = 1; omega), if_neg (by show ¬ kind = 3; omega), if_neg (by show ¬ kind = 2; omega)]
      rw [hc]
      clear hc hk
      go_enter Tryd.func10, Tryd.ntmps10
      go_wp2
      go_ret
      exact ⟨rfl, (Only.refl _ _).alloc _⟩
    · have h3 : 3 < kind := by omega
      simp only [Fr.cells]
      have hc : Fr.check ⟨kind, own, peer, seq, ack, body⟩ = 15 := by unfold Fr.check; rw [if_neg (by show ¬ kind = 1; omega), if_neg (by show ¬ kind = 3; omega), if_neg (by show ¬ kind = 2; omega)]
      rw [hc]
      clear hc hk
      go_enter Tryd.func10, Tryd.ntmps10
      go_wp2
      go_ret
      exact ⟨rfl, (Only.refl _ _).alloc _⟩
end Go.Proofs.YtnaacpopaccjpaaDoor
