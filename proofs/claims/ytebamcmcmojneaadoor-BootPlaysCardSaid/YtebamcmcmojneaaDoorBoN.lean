/- boot: without storage. -/
import Derived.Test.YtebamcmcmojneaaDoorPut
import Derived.Test.YtebamcmcmojneaaDoorFc
import Derived.BigQuiet
import Derived.Deep.QuietTactic
set_option linter.unusedSimpArgs false
set_option linter.unusedVariables false
namespace Go.Proofs.YtebamcmcmojneaaDoor
open Go.RowKit Go.Lib

abbrev Unmade (w : World) (p : Nat) : Prop := Has w p 25 #[.string ⟨#[]⟩, .string ⟨#[]⟩, .int .i64 0, .string ⟨#[]⟩, .bool false]
theorem tear_nil (w : World) (K : Int) : Calls Tryd.prog 5 #[.pointer none, .int .i64 K] w fun e w' => e = .returned (.tuple #[]) ∧ Only (fun _ => False) w w' := by
  go_enter Tryd.func5, Tryd.ntmps5
  go_wp2_with fail
  refine bodyPost_ret (results_none rfl _ _ _) rfl ?_
  exact ⟨rfl, Only.refl _ _⟩
theorem tear_unmade (w : World) (p : Nat) (K : Int) (h : Unmade w p) : Calls Tryd.prog 5 #[.pointer (some ⟨p, 0, none⟩), .int .i64 K] w fun e w' => e = .returned (.tuple #[]) ∧ Only (fun _ => False) w w' := by
  obtain ⟨c0, c1, c2, c3, c4, cf⟩ := Has.facts5 h
  go_enter Tryd.func5, Tryd.ntmps5
  go_wp2_with fail
  refine bodyPost_ret (results_none rfl _ _ _) rfl ?_
  exact ⟨rfl, Only.refl _ _⟩
theorem count_nil (w : World) : Calls Tryd.prog 9 #[.pointer none] w fun e w' => e = .returned (.int .u32 0) ∧ Only (fun _ => False) w w' := by
  go_enter Tryd.func9, Tryd.ntmps9
  go_wp2_with fail
  go_ret
  exact ⟨rfl, Only.refl _ _⟩
theorem count_unmade (w : World) (p : Nat) (h : Unmade w p) : Calls Tryd.prog 9 #[.pointer (some ⟨p, 0, none⟩)] w fun e w' => e = .returned (.int .u32 0) ∧ Only (fun _ => False) w w' := by
  obtain ⟨c0, c1, c2, c3, c4, cf⟩ := Has.facts5 h
  go_enter Tryd.func9, Tryd.ntmps9
  go_wp2_with fail
  go_ret
  exact ⟨rfl, Only.refl _ _⟩
theorem records_nil (w : World) : Calls Tryd.prog 7 #[.pointer none] w fun e w' => e = .returned (.tuple #[.string ⟨#[]⟩, .string ⟨#[]⟩]) ∧ Only (fun _ => False) w w' := by
  go_enter Tryd.func7, Tryd.ntmps7
  go_wp2_with fail
  refine bodyPost_ret (v := .tuple #[.string ⟨#[]⟩, .string ⟨#[]⟩]) ?_ rfl ⟨rfl, Only.refl _ _⟩
  simp [results, Tryd.results7, go_sem]
theorem records_any (w : World) (p : Nat) (a b : ByteArray) (x y z : Value) (h : Has w p 25 #[.string a, .string b, x, y, z]) : Calls Tryd.prog 7 #[.pointer (some ⟨p, 0, none⟩)] w fun e w' => e = .returned (.tuple #[.string a, .string b]) ∧ Only (fun _ => False) w w' := by
  obtain ⟨c0, c1, c2, c3, c4, cf⟩ := Has.facts5 h
  clear c2 c3 c4 cf
  go_enter Tryd.func7, Tryd.ntmps7
  go_wp2_with fail
  go_quiet (fail)
  go_wp2_with fail
  go_ret2
  exact ⟨rfl, (Only.refl _ _).drewN _⟩
theorem start_nil (w : World) : Calls Tryd.prog 6 #[.pointer none] w fun e w' => ∃ g s, e = .returned (.tuple #[.int .u32 0, .iface 56 (.pointer (some ⟨g, 0, none⟩))]) ∧ Has w' g 58 #[.int .i64 3, .string s, .nilIface] ∧ Only (fun _ => False) w w' := by
  go_enter Tryd.func6, Tryd.ntmps6
  go_wp2_with fail
  refine (fnew_any _ _ _ (by decide)).mono ?_
  rintro e w1 ⟨rfl, rfl⟩
  go_wp2_with fail
  go_ret2
  exact ⟨_, _, rfl, Has.new _ _ _, (Only.refl _ _).alloc _⟩
theorem start_unmade (w : World) (p : Nat) (h : Unmade w p) : Calls Tryd.prog 6 #[.pointer (some ⟨p, 0, none⟩)] w fun e w' => ∃ g s, e = .returned (.tuple #[.int .u32 0, .iface 56 (.pointer (some ⟨g, 0, none⟩))]) ∧ Has w' g 58 #[.int .i64 3, .string s, .nilIface] ∧ Only (fun _ => False) w w' := by
  obtain ⟨c0, c1, c2, c3, c4, cf⟩ := Has.facts5 h
  go_enter Tryd.func6, Tryd.ntmps6
  go_wp2_with fail
  refine (fnew_any _ _ _ (by decide)).mono ?_
  rintro e w1 ⟨rfl, rfl⟩
  go_wp2_with fail
  go_ret2
  exact ⟨_, _, rfl, Has.new _ _ _, (Only.refl _ _).alloc _⟩
end Go.Proofs.YtebamcmcmojneaaDoor
