/- Chapter 31: the law VerdictNobody walked. -/
import Derived.Test.YtffnjnkaefodlaaVc
import Derived.LoopTactic
set_option linter.unusedSimpArgs false
set_option linter.unusedVariables false
namespace Go.Proofs.Ytffnjnkaefodlaa
open Go.RowKit

def zero31 : St := ⟨0, 0, 0, false, false, false, 0, false⟩

theorem zero_stop (a b : Int) : zero31.stop a b = zero31 := rfl
theorem zero_begin (a : Int) : zero31.begin_ a = (zero31, 3) := rfl
theorem zero_say (a b c : Int) : zero31.say a b c = (zero31, 3) := rfl

set_option maxRecDepth 100000 in
set_option maxHeartbeats 1000000 in
theorem nobody_any (w : World) (kind who batch code : Int) :
    Calls Try.prog 5 #[.agg #[.int .i64 kind, .int .i64 who, .int .u32 batch, .int .i64 code]] w fun e w' => e = .returned (.bool true) ∧ Only (fun _ => False) w w' := by
  go_enter Try.func5, Try.ntmps5
  go_wp2_with fail
  go_loopw [13] (fun i W => ∃ (k : Nat), k ≤ 2 ∧ i = .int .i64 k ∧ Only (fun _ => False) w W ∧ Has W w.heap.size 28 #[.int .i64 kind, .int .i64 who, .int .u32 batch, .int .i64 code] ∧
      At W (w.heap.size + 1) zero31 ∧ Has W (w.heap.size + 1 + 1) 24 #[.pointer none, .pointer (some ⟨w.heap.size + 1, 0, none⟩)]) (fun i _ => 2 - (intOf i).toNat)
  case atStart =>
    refine ⟨0, by omega, rfl, (((Only.refl _ _).alloc _).alloc _).alloc _, ((Has.new _ _ _).alloc _).alloc _, ?_, ?_⟩
    · have := (Has.new (w.alloc (.cells #[.int .i64 kind, .int .i64 who, .int .u32 batch, .int .i64 code] 28)) 49 zero31.cells).alloc (.cells #[.pointer none, .pointer (some ⟨w.heap.size + 1, 0, none⟩)] 24)
      simpa [zero31, St.cells, At] using this
    · have := Has.new ((w.alloc (.cells #[.int .i64 kind, .int .i64 who, .int .u32 batch, .int .i64 code] 28)).alloc (.cells zero31.cells 49)) 24 #[.pointer none, .pointer (some ⟨w.heap.size + 1, 0, none⟩)]
      simpa [zero31, St.cells] using this
  case round =>
    obtain ⟨k, hk, rfl, ho, hb, hz, hs⟩ := hrel
    obtain ⟨c0, c1, c2, c3⟩ : wr.cell? ⟨w.heap.size, 0, none⟩ = some (.int .i64 kind) ∧ wr.cell? ⟨w.heap.size, 1, none⟩ = some (.int .i64 who) ∧ wr.cell? ⟨w.heap.size, 2, none⟩ = some (.int .u32 batch) ∧ wr.cell? ⟨w.heap.size, 3, none⟩ = some (.int .i64 code) := ⟨hb.cell 0, hb.cell 1, hb.cell 2, hb.cell 3⟩
    have hk' : k = 0 ∨ k = 1 ∨ k = 2 := by omega
    rcases hk' with rfl | rfl | rfl
    · have e0 : wr.cell? ⟨w.heap.size + 1 + 1, 0, none⟩ = some (.pointer none) := hs.cell 0
      go_wp2_with (first | (go_at_call 11; refine (stop_nil _ _ _).mono ?_; rintro e w1 ⟨rfl, rfl⟩) | (go_at_call 12; refine (code_nil _).mono ?_; rintro e w1 ⟨rfl, rfl⟩) | (go_at_call 17; refine (on_nil _).mono ?_; rintro e w1 ⟨rfl, rfl⟩) | (go_at_call 8; refine (begin_nil _ _).mono ?_; rintro e w1 ⟨rfl, rfl⟩) | (go_at_call 9; refine (say_nil _ _ _ _).mono ?_; rintro e w1 ⟨rfl, rfl⟩) | (go_at_call 13; refine (goes_nil _).mono ?_; rintro e w1 ⟨rfl, rfl⟩) | (go_at_call 18; refine (said_nil _ _).mono ?_; rintro e w1 ⟨rfl, rfl⟩) | (go_at_call 10; refine (good_nil _).mono ?_; rintro e w1 ⟨rfl, rfl⟩))
      go_roundw
      case rel => exact ⟨1, by omega, rfl, ho, hb, hz, hs⟩
      case measure => simp [intOf]
    · have e1 : wr.cell? ⟨w.heap.size + 1 + 1, 1, none⟩ = some (.pointer (some ⟨w.heap.size + 1, 0, none⟩)) := hs.cell 1
      go_wp2_with fail
      refine (stop_any _ _ zero31 who code hz).mono ?_; rw [zero_stop]; rintro e w1 ⟨rfl, o1, a1⟩
      go_wp2_with fail
      refine (code_any _ _ zero31 a1).mono ?_; rintro e w2 ⟨rfl, n2, rfl⟩
      simp only [show zero31.code = 0 from rfl, show zero31.who = 0 from rfl]
      go_wp2_with fail
      refine (on_any _ _ zero31 (a1.drewN _)).mono ?_; rintro e w3 ⟨rfl, rfl⟩
      simp only [show zero31.on = false from rfl]
      have o2 := o1.drewN n2
      have a2 := a1.drewN n2
      generalize w1.drewN n2 = w4 at *
      have b4 := o2.has hb (by omega)
      have s4 := o2.has hs (by omega)
      obtain ⟨d0, d1, d2, d3⟩ : w4.cell? ⟨w.heap.size, 0, none⟩ = some (.int .i64 kind) ∧ w4.cell? ⟨w.heap.size, 1, none⟩ = some (.int .i64 who) ∧ w4.cell? ⟨w.heap.size, 2, none⟩ = some (.int .u32 batch) ∧ w4.cell? ⟨w.heap.size, 3, none⟩ = some (.int .i64 code) := ⟨b4.cell 0, b4.cell 1, b4.cell 2, b4.cell 3⟩
      go_wp2_with fail
      refine (begin_any _ _ zero31 batch a2).mono ?_; rw [zero_begin]; rintro e w5 ⟨rfl, o5, a5⟩
      have b5 := o5.has b4 (by omega)
      have s5 := o5.has s4 (by omega)
      clear d0 d1 d2 d3
      obtain ⟨d0, d1, d2, d3⟩ : w5.cell? ⟨w.heap.size, 0, none⟩ = some (.int .i64 kind) ∧ w5.cell? ⟨w.heap.size, 1, none⟩ = some (.int .i64 who) ∧ w5.cell? ⟨w.heap.size, 2, none⟩ = some (.int .u32 batch) ∧ w5.cell? ⟨w.heap.size, 3, none⟩ = some (.int .i64 code) := ⟨b5.cell 0, b5.cell 1, b5.cell 2, b5.cell 3⟩
      go_wp2_with fail
      refine (say_any _ _ zero31 who batch code a5).mono ?_; rw [zero_say]; rintro e w6 ⟨rfl, o6, a6⟩
      have b6 := o6.has b5 (by omega)
      have s6 := o6.has s5 (by omega)
      clear d0 d1 d2 d3
      obtain ⟨d0, d1, d2, d3⟩ : w6.cell? ⟨w.heap.size, 0, none⟩ = some (.int .i64 kind) ∧ w6.cell? ⟨w.heap.size, 1, none⟩ = some (.int .i64 who) ∧ w6.cell? ⟨w.heap.size, 2, none⟩ = some (.int .u32 batch) ∧ w6.cell? ⟨w.heap.size, 3, none⟩ = some (.int .i64 code) := ⟨b6.cell 0, b6.cell 1, b6.cell 2, b6.cell 3⟩
      go_wp2_with fail
      refine (goes_any _ _ zero31 a6).mono ?_; rw [show zero31.ready = 3 from rfl]; rintro e w7 ⟨rfl, rfl⟩
      go_wp2_with fail
      refine (said_any _ _ zero31 who a6).mono ?_; rw [show zero31.on = false from rfl]; rintro e w7 ⟨rfl, rfl⟩
      go_wp2_with fail
      refine (good_any _ _ zero31 a6).mono ?_; rw [show zero31.good = 0 from rfl]; rintro e w7 ⟨rfl, rfl⟩
      go_wp2_with fail
      go_roundw
      case rel => exact ⟨2, by omega, rfl, ((ho.then_ o2 (fun i hi e => absurd hi (by omega))).then_ o5 (fun i hi e => absurd hi (by omega))).then_ o6 (fun i hi e => absurd hi (by omega)), b6, a6, s6⟩
      case measure => simp [intOf]
    · go_wp2_with fail
      refine (awake_any _).mono ?_; rintro e w1 ⟨rfl, o1⟩
      go_wp2_with fail
      go_ret
      exact ⟨rfl, ho.trans o1⟩
end Go.Proofs.Ytffnjnkaefodlaa
