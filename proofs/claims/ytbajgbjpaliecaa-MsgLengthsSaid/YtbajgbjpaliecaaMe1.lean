/- The reference of layer 10: Check, where there is nothing to check. -/
import Derived.Test.YtbajgbjpaliecaaMd
set_option linter.unusedSimpArgs false
set_option linter.unusedVariables false
namespace Go.Proofs.Ytbajgbjpaliecaa
open Go.RowKit

theorem counted_yes (w : World) (n k : Int) (h1 : 1 ≤ n) (h2 : n ≤ k) : Calls Try.prog 25 #[.int .u32 n, .int .u32 k] w fun e w' => e = .returned (.bool true) ∧ w = w' := by
  go_enter Try.func25, Try.ntmps25
  go_wp2
  go_ret
  exact ⟨rfl, rfl⟩
theorem counted_no (w : World) (n k : Int) (h : n < 1 ∨ k < n) : Calls Try.prog 25 #[.int .u32 n, .int .u32 k] w fun e w' => e = .returned (.bool false) ∧ w = w' := by
  by_cases h1 : n < 1
  · clear h
    go_enter Try.func25, Try.ntmps25
    go_wp2
    go_ret
    exact ⟨rfl, rfl⟩
  · have h2 : ¬ n ≤ k := by omega
    have h1 : 1 ≤ n := by omega
    clear h
    go_enter Try.func25, Try.ntmps25
    go_wp2
    go_ret
    exact ⟨rfl, rfl⟩
set_option maxRecDepth 100000 in
set_option maxHeartbeats 4000000 in
theorem rmcheck_lo (w : World) (m : Mg) (vw vs : Value) (h : MgAt w m vw vs) (hs : m.Short) (hk : m.kind = 4 ∨ m.kind = 5 ∨ m.kind = 7) : Calls Try.prog 10 #[.agg (m.cells vw vs).toArray] w fun e w' => e = .returned (.int .i64 m.check) ∧ Only (fun _ => False) w w' := by
  rw [Mg.check4 (by omega)]
  have O0 := (Only.refl (fun _ => False) w).alloc (.cells (m.cells vw vs).toArray 32)
  have B0 := Has.new w 32 (m.cells vw vs).toArray
  have hsz : (m.cells vw vs).toArray.size = 82 := by simpa using Mg.cells_length h.ok vw vs
  have HF := Lib.hid (fun W (h2 : Has W w.heap.size 32 (m.cells vw vs).toArray) => mf_of h2 h.ok)
  have hdat := h.ok.data
  have hlw := h.ok.lw
  obtain ⟨hc0, hc1⟩ := h.ok.count
  obtain ⟨ho0, ho1⟩ := h.ok.opened
  obtain ⟨hw0, hw1⟩ := h.ok.width
  have HC := Lib.hid (fun W => srcheck_any W m.c)
  obtain ⟨Aw, cw, rfl, hAw⟩ := h.words
  obtain ⟨As, cs, rfl, hAs⟩ := h.shares
  have k0 : ¬ m.kind < 1 := by omega
  have k13 : ¬ 13 < m.kind := by omega
  have k1 : (m.kind == 1) = false := by simp; omega
  have k2 : (m.kind == 2) = false := by simp; omega
  have k3 : (m.kind == 3) = false := by simp; omega
  have k6 : (m.kind == 6) = false := by simp; omega
  have k9 : (m.kind == 9) = false := by simp; omega
  have k10 : (m.kind == 10) = false := by simp; omega
  have k8 : ¬ 8 ≤ m.kind := by omega
  clear hk
  generalize (m.cells (.slice Aw m.words.length cw) (.slice As m.shares.length cs)).toArray = css at *
  obtain ⟨f0, -, -, -, -, -, -, -, -, f9, -, -, -, -, f14, f15, f16, f81⟩ := HF.out _ B0
  clear hAw hAs hs
  go_enter Try.func10, Try.ntmps10
  go_wp2_with fail
  go_big_quiet (fail)
  go_wp2_with fail
  all_goals (refine wp_loop_rounds 1 ?_; rw [rounds_succ])
  all_goals go_wp2_with fail
  all_goals (refine wp_loop_rounds 1 ?_; rw [rounds_succ])
  all_goals go_wp2_with fail
  all_goals go_ret
  all_goals exact ⟨rfl, O0.drewN _⟩
set_option maxRecDepth 100000 in
set_option maxHeartbeats 4000000 in
theorem rmcheck_hi (w : World) (m : Mg) (vw vs : Value) (h : MgAt w m vw vs) (hs : m.Short) (hk : m.kind = 11 ∨ m.kind = 12 ∨ m.kind = 13) : Calls Try.prog 10 #[.agg (m.cells vw vs).toArray] w fun e w' => e = .returned (.int .i64 m.check) ∧ Only (fun _ => False) w w' := by
  rw [Mg.check4 (by omega)]
  have O0 := (Only.refl (fun _ => False) w).alloc (.cells (m.cells vw vs).toArray 32)
  have B0 := Has.new w 32 (m.cells vw vs).toArray
  have hsz : (m.cells vw vs).toArray.size = 82 := by simpa using Mg.cells_length h.ok vw vs
  have HF := Lib.hid (fun W (h2 : Has W w.heap.size 32 (m.cells vw vs).toArray) => mf_of h2 h.ok)
  have hdat := h.ok.data
  have hlw := h.ok.lw
  obtain ⟨hc0, hc1⟩ := h.ok.count
  obtain ⟨ho0, ho1⟩ := h.ok.opened
  obtain ⟨hw0, hw1⟩ := h.ok.width
  have HC := Lib.hid (fun W => srcheck_any W m.c)
  obtain ⟨Aw, cw, rfl, hAw⟩ := h.words
  obtain ⟨As, cs, rfl, hAs⟩ := h.shares
  have k0 : ¬ m.kind < 1 := by omega
  have k13 : ¬ 13 < m.kind := by omega
  have k1 : (m.kind == 1) = false := by simp; omega
  have k2 : (m.kind == 2) = false := by simp; omega
  have k3 : (m.kind == 3) = false := by simp; omega
  have k6 : (m.kind == 6) = false := by simp; omega
  have k9 : (m.kind == 9) = false := by simp; omega
  have k10 : (m.kind == 10) = false := by simp; omega
  have k8 : 8 ≤ m.kind := by omega
  have k10' : ¬ m.kind ≤ 10 := by omega
  clear hk
  generalize (m.cells (.slice Aw m.words.length cw) (.slice As m.shares.length cs)).toArray = css at *
  obtain ⟨f0, -, -, -, -, -, -, -, -, f9, -, -, -, -, f14, f15, f16, f81⟩ := HF.out _ B0
  clear hAw hAs hs
  go_enter Try.func10, Try.ntmps10
  go_wp2_with fail
  go_big_quiet (fail)
  go_wp2_with fail
  all_goals (refine wp_loop_rounds 1 ?_; rw [rounds_succ])
  all_goals go_wp2_with fail
  all_goals (refine wp_loop_rounds 1 ?_; rw [rounds_succ])
  all_goals go_wp2_with fail
  all_goals go_ret
  all_goals exact ⟨rfl, O0.drewN _⟩
set_option maxRecDepth 100000 in
set_option maxHeartbeats 4000000 in
theorem rmcheck_no (w : World) (m : Mg) (vw vs : Value) (h : MgAt w m vw vs) (hs : m.Short) (hk : m.kind < 1 ∨ 13 < m.kind) : Calls Try.prog 10 #[.agg (m.cells vw vs).toArray] w fun e w' => e = .returned (.int .i64 m.check) ∧ Only (fun _ => False) w w' := by
  rw [Mg.check0 hk]
  have O0 := (Only.refl (fun _ => False) w).alloc (.cells (m.cells vw vs).toArray 32)
  have B0 := Has.new w 32 (m.cells vw vs).toArray
  have hsz : (m.cells vw vs).toArray.size = 82 := by simpa using Mg.cells_length h.ok vw vs
  have HF := Lib.hid (fun W (h2 : Has W w.heap.size 32 (m.cells vw vs).toArray) => mf_of h2 h.ok)
  have hdat := h.ok.data
  have hlw := h.ok.lw
  obtain ⟨hc0, hc1⟩ := h.ok.count
  obtain ⟨ho0, ho1⟩ := h.ok.opened
  obtain ⟨hw0, hw1⟩ := h.ok.width
  have HC := Lib.hid (fun W => srcheck_any W m.c)
  obtain ⟨Aw, cw, rfl, hAw⟩ := h.words
  obtain ⟨As, cs, rfl, hAs⟩ := h.shares
  generalize (m.cells (.slice Aw m.words.length cw) (.slice As m.shares.length cs)).toArray = css at *
  clear hAw hAs hs
  obtain ⟨f0, -, -, -, -, -, -, -, -, -, -, -, -, -, -, -, -, -⟩ := HF.out _ B0
  rcases hk with hk | hk
  · go_enter Try.func10, Try.ntmps10
    go_wp2_with fail
    go_ret
    exact ⟨rfl, O0⟩
  · have hk0 : ¬ m.kind < 1 := by omega
    go_enter Try.func10, Try.ntmps10
    go_wp2_with fail
    go_ret
    exact ⟨rfl, O0⟩
end Go.Proofs.Ytbajgbjpaliecaa
