/- Chapter 31: the askers of verdict.Stand, on a block that holds one; and all methods on nil. -/
import Derived.Test.YtffnjnkaefodlaaVa
set_option linter.unusedSimpArgs false
set_option linter.unusedVariables false
namespace Go.Proofs.Ytffnjnkaefodlaa
open Go.RowKit

theorem new_any (w : World) : Calls Try.prog 7 #[] w fun e w' => e = .returned (.pointer (some ⟨w.heap.size, 0, none⟩)) ∧ Only (fun _ => False) w w' ∧ At w' w.heap.size ⟨0, 0, 0, false, false, false, 0, true⟩ ∧ w'.heap.size = w.heap.size + 1 := by
  go_enter Try.func7, Try.ntmps7
  go_wp2
  go_ret
  exact ⟨rfl, (Only.refl _ _).alloc _, Has.new _ _ _, by simp⟩

theorem code_any (w : World) (b : Nat) (s : St) (h : At w b s) :
   Calls Try.prog 12 #[.pointer (some ⟨b, 0, none⟩)] w fun e w' => e = .returned (.tuple #[.int .i64 s.code, .int .i64 s.who]) ∧ ∃ n, w' = w.drewN n := by
  obtain ⟨h0, h1, h2, h3, h4, h5, h6, h7, hf⟩ := h.facts
  clear h h2 h3 h4 h5 h6 h7 hf
  go_enter Try.func12, Try.ntmps12
  go_wp2
  go_quiet (fail)
  go_wp2
  go_ret2
  exact ⟨rfl, _, rfl⟩

theorem goes_any (w : World) (b : Nat) (s : St) (h : At w b s) :
   Calls Try.prog 13 #[.pointer (some ⟨b, 0, none⟩)] w fun e w' => e = .returned (.bool (s.ready == 0)) ∧ w = w' := by
  have hr := ready_any w b s h
  go_enter Try.func13, Try.ntmps13
  go_wp2_with (go_at_call 19; refine hr.mono ?_; rintro e w' ⟨rfl, rfl⟩)
  go_ret
  exact ⟨rfl, rfl⟩

theorem good_any (w : World) (b : Nat) (s : St) (h : At w b s) :
   Calls Try.prog 10 #[.pointer (some ⟨b, 0, none⟩)] w fun e w' => e = .returned (.int .i64 s.good) ∧ w = w' := by
  obtain ⟨h0, h1, h2, h3, h4, h5, h6, h7, hf⟩ := h.facts
  go_enter Try.func10, Try.ntmps10
  go_wp2
  go_ret
  exact ⟨rfl, rfl⟩

theorem on_any (w : World) (b : Nat) (s : St) (h : At w b s) :
   Calls Try.prog 17 #[.pointer (some ⟨b, 0, none⟩)] w fun e w' => e = .returned (.tuple #[.int .u32 (if s.on = true then s.batch else 0), .bool s.on]) ∧ w = w' := by
  obtain ⟨h0, h1, h2, h3, h4, h5, h6, h7, hf⟩ := h.facts
  go_enter Try.func17, Try.ntmps17
  go_wp2
  all_goals
    go_ret2
    refine ⟨?_, rfl⟩
    simp_all

theorem said_any (w : World) (b : Nat) (s : St) (who : Int) (h : At w b s) :
   Calls Try.prog 18 #[.pointer (some ⟨b, 0, none⟩), .int .i64 who] w fun e w' => e = .returned (.bool (s.on && ((who == 1) && s.own || (who == 2) && s.other))) ∧ w = w' := by
  obtain ⟨h0, h1, h2, h3, h4, h5, h6, h7, hf⟩ := h.facts
  go_enter Try.func18, Try.ntmps18
  go_wp2
  all_goals
    go_ret
    refine ⟨?_, rfl⟩
    simp_all

/-! on nil -/
theorem ready_nil (w : World) : Calls Try.prog 19 #[.pointer none] w fun e w' => e = .returned (.int .i64 3) ∧ w = w' := by
  go_enter Try.func19, Try.ntmps19
  go_wp2
  go_ret
  exact ⟨rfl, rfl⟩
theorem begin_nil (w : World) (batch : Int) : Calls Try.prog 8 #[.pointer none, .int .u32 batch] w fun e w' => e = .returned (.int .i64 3) ∧ w = w' := by
  go_enter Try.func8, Try.ntmps8
  go_wp2_with (go_at_call 19; refine (ready_nil _).mono ?_; rintro e w' ⟨rfl, rfl⟩)
  go_ret
  exact ⟨rfl, rfl⟩
theorem say_nil (w : World) (who batch code : Int) : Calls Try.prog 9 #[.pointer none, .int .i64 who, .int .u32 batch, .int .i64 code] w fun e w' => e = .returned (.int .i64 3) ∧ w = w' := by
  go_enter Try.func9, Try.ntmps9
  go_wp2_with (go_at_call 19; refine (ready_nil _).mono ?_; rintro e w' ⟨rfl, rfl⟩)
  go_ret
  exact ⟨rfl, rfl⟩
theorem stop_nil (w : World) (who code : Int) : Calls Try.prog 11 #[.pointer none, .int .i64 who, .int .i64 code] w fun e w' => e = .returned (.tuple #[]) ∧ w = w' := by
  go_enter Try.func11, Try.ntmps11
  go_wp2_with (go_at_call 19; refine (ready_nil _).mono ?_; rintro e w' ⟨rfl, rfl⟩)
  (first | go_end0 | ((try simp only [Exit.inBlock, Exit.then]); refine bodyPost_ret (results_none rfl _ _ _) rfl ?_))
  exact ⟨rfl, rfl⟩
theorem goes_nil (w : World) : Calls Try.prog 13 #[.pointer none] w fun e w' => e = .returned (.bool false) ∧ w = w' := by
  go_enter Try.func13, Try.ntmps13
  go_wp2_with (go_at_call 19; refine (ready_nil _).mono ?_; rintro e w' ⟨rfl, rfl⟩)
  go_ret
  exact ⟨rfl, rfl⟩
theorem code_nil (w : World) : Calls Try.prog 12 #[.pointer none] w fun e w' => e = .returned (.tuple #[.int .i64 0, .int .i64 0]) ∧ w = w' := by
  go_enter Try.func12, Try.ntmps12
  go_wp2
  go_ret2
  exact ⟨rfl, rfl⟩
theorem on_nil (w : World) : Calls Try.prog 17 #[.pointer none] w fun e w' => e = .returned (.tuple #[.int .u32 0, .bool false]) ∧ w = w' := by
  go_enter Try.func17, Try.ntmps17
  go_wp2
  go_ret2
  exact ⟨rfl, rfl⟩
theorem said_nil (w : World) (who : Int) : Calls Try.prog 18 #[.pointer none, .int .i64 who] w fun e w' => e = .returned (.bool false) ∧ w = w' := by
  go_enter Try.func18, Try.ntmps18
  go_wp2
  go_ret
  exact ⟨rfl, rfl⟩
theorem good_nil (w : World) : Calls Try.prog 10 #[.pointer none] w fun e w' => e = .returned (.int .i64 0) ∧ w = w' := by
  go_enter Try.func10, Try.ntmps10
  go_wp2
  go_ret
  exact ⟨rfl, rfl⟩
end Go.Proofs.Ytffnjnkaefodlaa
