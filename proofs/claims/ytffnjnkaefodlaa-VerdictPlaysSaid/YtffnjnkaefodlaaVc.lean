/- Chapter 31: the chapter's example. -/
import Derived.Test.YtffnjnkaefodlaaVb
set_option linter.unusedSimpArgs false
set_option linter.unusedVariables false
namespace Go.Proofs.Ytffnjnkaefodlaa
open Go.RowKit

theorem ex_begin : (St.begin_ ⟨0, 0, 0, false, false, false, 0, true⟩ 1) = (⟨0, 0, 1, true, false, false, 0, true⟩, 0) := by simp [St.begin_, St.ready]
theorem ex_say1 : (St.say ⟨0, 0, 1, true, false, false, 0, true⟩ 1 1 0) = (⟨0, 0, 1, true, true, false, 0, true⟩, 0) := by simp [St.say, St.ready]
theorem ex_say2 : (St.say ⟨0, 0, 1, true, true, false, 0, true⟩ 2 1 32) = (⟨32, 2, 1, false, true, false, 0, true⟩, 33) := by simp [St.say, St.stop, St.ready]

theorem awake_any (w : World) : Calls Try.prog 6 #[] w fun e w' => e = .returned (.bool true) ∧ Only (fun _ => False) w w' := by
  go_enter Try.func6, Try.ntmps6
  go_wp2_with fail
  refine (new_any _).mono ?_; rintro e w1 ⟨rfl, o1, a1, z1⟩
  have Z1 := Lib.hid z1
  clear z1
  go_wp2_with fail
  refine (begin_any _ _ _ 1 a1).mono ?_; rw [ex_begin]; rintro e w2 ⟨rfl, o2, a2⟩
  go_wp2_with fail
  refine (say_any _ _ _ 1 1 0 a2).mono ?_; rw [ex_say1]; rintro e w3 ⟨rfl, o3, a3⟩
  go_wp2_with fail
  refine (say_any _ _ _ 2 1 32 a3).mono ?_; rw [ex_say2]; rintro e w4 ⟨rfl, o4, a4⟩
  go_wp2_with fail
  refine (code_any _ _ _ a4).mono ?_; rintro e w5 ⟨rfl, n5, rfl⟩
  go_wp2_with fail
  refine (goes_any _ _ _ (a4.drewN _)).mono ?_; rintro e w6 ⟨rfl, rfl⟩
  go_wp2_with fail
  go_ret
  refine ⟨rfl, (((o1.then_ o2 ?_).then_ o3 ?_).then_ o4 ?_).drewN _⟩ <;> · intro i hi e; omega
end Go.Proofs.Ytffnjnkaefodlaa
