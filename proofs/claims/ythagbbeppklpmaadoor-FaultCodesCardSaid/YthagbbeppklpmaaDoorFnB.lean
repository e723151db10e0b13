/- Chapter 1: FaultNone walked. -/
import Derived.Test.YthagbbeppklpmaaDoorFn
import Derived.LaidEql
set_option linter.unusedSimpArgs false
set_option linter.unusedVariables false
namespace Go.Proofs.YthagbbeppklpmaaDoor
open Go.RowKit

set_option maxRecDepth 100000 in
theorem is_nil (w : World) (c : Int) : Calls Tryd.prog 34 #[.nilIface, .iface 46 (.int .i64 c)] w fun e w' => e = .returned (.bool false) ∧ w = w' := by
  have hq : ∀ W, (binOp .eql 32 .nilIface (.iface 46 (.int .i64 c))).run Tryd.prog W = .ok (.bool false) W := fun W => run_eql_iface_nil_left (P := Tryd.prog) (w := W) 46 (.int .i64 c) Tryd.underlying32
  go_enter Tryd.func34, Tryd.ntmps34
  go_wp2_with fail
  go_ret
  exact ⟨rfl, rfl⟩
theorem has_nil (w : World) (c : Int) (hc : (c == 0) = false) : Calls Tryd.prog 22 #[.nilIface, .int .i64 c] w fun e w' => e = .returned (.bool false) ∧ w = w' := by
  go_enter Tryd.func22, Tryd.ntmps22
  go_wp2_with fail
  refine (is_nil _ _).mono ?_
  rintro e w2 ⟨rfl, rfl⟩
  go_wp2_with fail
  go_ret
  exact ⟨rfl, rfl⟩

set_option maxRecDepth 100000 in
set_option maxHeartbeats 2000000 in
theorem none_any (w : World) (s : ByteArray) (c : Int) (hE : Et w) : Calls Tryd.prog 5 #[.string s, .int .i64 c] w fun e w' => e = .returned (.bool true) ∧ Only (fun _ => False) w w' := by
  have HAW := Lib.hid awake01_any
  have hcase : c = 0 ∨ (c == 0) = false := by
    by_cases h : c = 0
    · exact .inl h
    · exact .inr (by simpa using h)
  rcases hcase with rfl | hc
  · skip
    go_enter Tryd.func5, Tryd.ntmps5
    go_wp2_with fail
    refine (at_nil _).mono ?_; rintro e w1 ⟨rfl, o1⟩
    go_wp2_with fail
    refine (fnew_ok _ _).mono ?_; rintro e w2 ⟨rfl, rfl⟩
    go_wp2_with fail
    refine (fwrap_nil _ _).mono ?_; rintro e w2 ⟨rfl, rfl⟩
    go_wp2_with fail
    refine (both_nil _).mono ?_; rintro e w2 ⟨rfl, rfl⟩
    go_wp2_with fail
    refine (text_nil _).mono ?_; rintro e w2 ⟨rfl, o2⟩
    go_wp2_with fail
    refine (codes_nil _).mono ?_; rintro e w3 ⟨rfl, o3⟩
    go_wp2_with fail
    refine (path_nil _).mono ?_; rintro e w4 ⟨rfl, rfl⟩
    go_wp2_with fail
    refine (code_nil _).mono ?_; rintro e w4 ⟨rfl, o4⟩
    go_wp2_with fail
    refine (has_nil_ok _).mono ?_; rintro e w5 ⟨rfl, rfl⟩
    go_wp2_with fail
    have O4 := (((o1.trans o2).trans o3).trans o4)
    refine (has_nil_ok _).mono ?_; rintro e w5 ⟨rfl, rfl⟩
    go_wp2_with fail
    refine (HAW.out _ (hE.only O4 (fun f => f))).mono ?_; rintro e w6 ⟨rfl, o6⟩
    go_wp2_with fail
    go_ret
    exact ⟨rfl, O4.trans o6⟩
  · skip
    go_enter Tryd.func5, Tryd.ntmps5
    go_wp2_with fail
    refine (at_nil _).mono ?_; rintro e w1 ⟨rfl, o1⟩
    go_wp2_with fail
    refine (fnew_ok _ _).mono ?_; rintro e w2 ⟨rfl, rfl⟩
    go_wp2_with fail
    refine (fwrap_nil _ _).mono ?_; rintro e w2 ⟨rfl, rfl⟩
    go_wp2_with fail
    refine (both_nil _).mono ?_; rintro e w2 ⟨rfl, rfl⟩
    go_wp2_with fail
    refine (text_nil _).mono ?_; rintro e w2 ⟨rfl, o2⟩
    go_wp2_with fail
    refine (codes_nil _).mono ?_; rintro e w3 ⟨rfl, o3⟩
    go_wp2_with fail
    refine (path_nil _).mono ?_; rintro e w4 ⟨rfl, rfl⟩
    go_wp2_with fail
    refine (code_nil _).mono ?_; rintro e w4 ⟨rfl, o4⟩
    go_wp2_with fail
    refine (has_nil_ok _).mono ?_; rintro e w5 ⟨rfl, rfl⟩
    go_wp2_with fail
    have O4 := (((o1.trans o2).trans o3).trans o4)
    refine (has_nil _ c hc).mono ?_; rintro e w5 ⟨rfl, rfl⟩
    go_wp2_with fail
    refine (HAW.out _ (hE.only O4 (fun f => f))).mono ?_; rintro e w6 ⟨rfl, o6⟩
    go_wp2_with fail
    go_ret
    exact ⟨rfl, O4.trans o6⟩
end Go.Proofs.YthagbbeppklpmaaDoor
