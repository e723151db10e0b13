/- The reference of layer 10: Check, of the kinds with a class. -/
import Derived.Test.YtbajgbjpaliecaaMe1
set_option linter.unusedSimpArgs false
set_option linter.unusedVariables false
namespace Go.Proofs.Ytbajgbjpaliecaa
open Go.RowKit

set_option maxRecDepth 100000 in
set_option maxHeartbeats 4000000 in
theorem rmcheck8 (w : World) (m : Mg) (vw vs : Value) (h : MgAt w m vw vs) (hs : m.Short) (hk : m.kind = 8) : Calls Try.prog 10 #[.agg (m.cells vw vs).toArray] w fun e w' => e = .returned (.int .i64 m.check) ∧ Only (fun _ => False) w w' := by
  rw [Mg.check8 hk]
  have O0 := (Only.refl (fun _ => False) w).alloc (.cells (m.cells vw vs).toArray 32)
  have B0 := Has.new w 32 (m.cells vw vs).toArray
  have hsz : (m.cells vw vs).toArray.size = 82 := by simpa using Mg.cells_length h.ok vw vs
  have HF := Lib.hid (fun W (h2 : Has W w.heap.size 32 (m.cells vw vs).toArray) => mf_of h2 h.ok)
  have hdat := h.ok.data
  have hlw := h.ok.lw
  obtain ⟨hc0, hc1⟩ := h.ok.count
  obtain ⟨ho0, ho1⟩ := h.ok.opened
  obtain ⟨hw0, hw1⟩ := h.ok.width
  have HC := Lib.hid (fun W => srcheck_any W m.c)
  obtain ⟨Aw, cw, rfl, hAw⟩ := h.words
  obtain ⟨As, cs, rfl, hAs⟩ := h.shares
  generalize (m.cells (.slice Aw m.words.length cw) (.slice As m.shares.length cs)).toArray = css at *
  obtain ⟨f0, -, -, -, f4, f5, f6, f7, f8, -, -, -, -, -, -, -, -, -⟩ := HF.out _ B0
  rw [hk] at f0
  by_cases hcc : m.c.check = 0
  · rw [hcc] at HC ⊢
    clear hcc hAw hAs hs
    go_enter Try.func10, Try.ntmps10
    go_wp2_with fail
    refine (HC.out _).mono ?_; rintro e w1 ⟨rfl, o1⟩
    obtain ⟨g0, -, -, -, -, -, -, -, -, g9, g10, -, -, -, g14, g15, g16, g81⟩ := HF.out _ (o1.has B0 (fun f => f))
    rw [hk] at g0
    go_wp2_with fail
    go_big_quiet (fail)
    go_wp2_with fail
    all_goals (refine wp_loop_rounds 1 ?_; rw [rounds_succ])
    all_goals go_wp2_with fail
    all_goals (refine wp_loop_rounds 1 ?_; rw [rounds_succ])
    all_goals go_wp2_with fail
    all_goals go_ret
    all_goals exact ⟨rfl, (O0.trans o1).drewN _⟩
  · skip
    have h1 : (m.c.check != 0) = true := by simpa using hcc
    clear hcc hAw hAs hs
    generalize m.c.check = x at *
    go_enter Try.func10, Try.ntmps10
    go_wp2_with fail
    refine (HC.out _).mono ?_; rintro e w1 ⟨rfl, o1⟩
    obtain ⟨g0, -, -, -, g4, g5, g6, g7, g8, -, -, -, -, -, -, -, -, -⟩ := HF.out _ (o1.has B0 (fun f => f))
    rw [hk] at g0
    go_wp2_with fail
    refine (HC.out _).mono ?_; rintro e w2 ⟨rfl, o2⟩
    go_wp2_with fail
    go_ret
    exact ⟨rfl, O0.trans (o1.trans o2)⟩
set_option maxRecDepth 100000 in
set_option maxHeartbeats 4000000 in
theorem rmcheck9 (w : World) (m : Mg) (vw vs : Value) (h : MgAt w m vw vs) (hs : m.Short) (hk : m.kind = 9) : Calls Try.prog 10 #[.agg (m.cells vw vs).toArray] w fun e w' => e = .returned (.int .i64 m.check) ∧ Only (fun _ => False) w w' := by
  rw [Mg.check9 (by omega)]
  have O0 := (Only.refl (fun _ => False) w).alloc (.cells (m.cells vw vs).toArray 32)
  have B0 := Has.new w 32 (m.cells vw vs).toArray
  have hsz : (m.cells vw vs).toArray.size = 82 := by simpa using Mg.cells_length h.ok vw vs
  have HF := Lib.hid (fun W (h2 : Has W w.heap.size 32 (m.cells vw vs).toArray) => mf_of h2 h.ok)
  have hdat := h.ok.data
  have hlw := h.ok.lw
  obtain ⟨hc0, hc1⟩ := h.ok.count
  obtain ⟨ho0, ho1⟩ := h.ok.opened
  obtain ⟨hw0, hw1⟩ := h.ok.width
  have HC := Lib.hid (fun W => srcheck_any W m.c)
  obtain ⟨Aw, cw, rfl, hAw⟩ := h.words
  obtain ⟨As, cs, rfl, hAs⟩ := h.shares
  generalize (m.cells (.slice Aw m.words.length cw) (.slice As m.shares.length cs)).toArray = css at *
  obtain ⟨f0, -, -, -, f4, f5, f6, f7, f8, -, -, -, -, -, -, -, -, -⟩ := HF.out _ B0
  rw [hk] at f0
  by_cases hcc : m.c.check = 0
  · rw [hcc] at HC
    rw [show ticketC m = if m.count < 1 ∨ 64 < m.count then 1 else 0 from if_neg (by simpa using hcc)]
    clear hcc hAw hAs hs
    by_cases hn : m.count < 1 ∨ 64 < m.count
    · rw [if_pos hn]
      have HCN := Lib.hid (fun W => counted_no W m.count 64 hn)
      clear hn
      go_enter Try.func10, Try.ntmps10
      go_wp2_with fail
      refine (HC.out _).mono ?_; rintro e w1 ⟨rfl, o1⟩
      obtain ⟨g0, -, -, -, -, -, -, -, -, g9, g10, -, -, -, g14, g15, g16, g81⟩ := HF.out _ (o1.has B0 (fun f => f))
      rw [hk] at g0
      go_wp2_with (go_at_call 25; (with_reducible refine (HCN.out _).mono ?_); rintro e w' ⟨rfl, rfl⟩)
      go_ret
      exact ⟨rfl, O0.trans o1⟩
    · rw [if_neg hn]
      have HCN := Lib.hid (fun W => counted_yes W m.count 64 (by omega) (by omega))
      clear hn
      go_enter Try.func10, Try.ntmps10
      go_wp2_with fail
      refine (HC.out _).mono ?_; rintro e w1 ⟨rfl, o1⟩
      obtain ⟨g0, -, -, -, -, -, -, -, -, g9, g10, -, -, -, g14, g15, g16, g81⟩ := HF.out _ (o1.has B0 (fun f => f))
      rw [hk] at g0
      go_wp2_with (go_at_call 25; (with_reducible refine (HCN.out _).mono ?_); rintro e w' ⟨rfl, rfl⟩)
      go_big_quiet (fail)
      go_wp2_with fail
      all_goals (refine wp_loop_rounds 1 ?_; rw [rounds_succ])
      all_goals go_wp2_with fail
      all_goals (refine wp_loop_rounds 1 ?_; rw [rounds_succ])
      all_goals go_wp2_with fail
      all_goals go_ret
      all_goals exact ⟨rfl, (O0.trans o1).drewN _⟩
  · rw [show ticketC m = m.c.check from if_pos hcc]
    have h1 : (m.c.check != 0) = true := by simpa using hcc
    clear hcc hAw hAs hs
    generalize m.c.check = x at *
    go_enter Try.func10, Try.ntmps10
    go_wp2_with fail
    refine (HC.out _).mono ?_; rintro e w1 ⟨rfl, o1⟩
    obtain ⟨g0, -, -, -, g4, g5, g6, g7, g8, -, -, -, -, -, -, -, -, -⟩ := HF.out _ (o1.has B0 (fun f => f))
    rw [hk] at g0
    go_wp2_with fail
    refine (HC.out _).mono ?_; rintro e w2 ⟨rfl, o2⟩
    go_wp2_with fail
    go_ret
    exact ⟨rfl, O0.trans (o1.trans o2)⟩
set_option maxRecDepth 100000 in
set_option maxHeartbeats 4000000 in
theorem rmcheck10 (w : World) (m : Mg) (vw vs : Value) (h : MgAt w m vw vs) (hs : m.Short) (hk : m.kind = 10) : Calls Try.prog 10 #[.agg (m.cells vw vs).toArray] w fun e w' => e = .returned (.int .i64 m.check) ∧ Only (fun _ => False) w w' := by
  rw [Mg.check9 (by omega)]
  have O0 := (Only.refl (fun _ => False) w).alloc (.cells (m.cells vw vs).toArray 32)
  have B0 := Has.new w 32 (m.cells vw vs).toArray
  have hsz : (m.cells vw vs).toArray.size = 82 := by simpa using Mg.cells_length h.ok vw vs
  have HF := Lib.hid (fun W (h2 : Has W w.heap.size 32 (m.cells vw vs).toArray) => mf_of h2 h.ok)
  have hdat := h.ok.data
  have hlw := h.ok.lw
  obtain ⟨hc0, hc1⟩ := h.ok.count
  obtain ⟨ho0, ho1⟩ := h.ok.opened
  obtain ⟨hw0, hw1⟩ := h.ok.width
  have HC := Lib.hid (fun W => srcheck_any W m.c)
  obtain ⟨Aw, cw, rfl, hAw⟩ := h.words
  obtain ⟨As, cs, rfl, hAs⟩ := h.shares
  generalize (m.cells (.slice Aw m.words.length cw) (.slice As m.shares.length cs)).toArray = css at *
  obtain ⟨f0, -, -, -, f4, f5, f6, f7, f8, -, -, -, -, -, -, -, -, -⟩ := HF.out _ B0
  rw [hk] at f0
  by_cases hcc : m.c.check = 0
  · rw [hcc] at HC
    rw [show ticketC m = if m.count < 1 ∨ 64 < m.count then 1 else 0 from if_neg (by simpa using hcc)]
    clear hcc hAw hAs hs
    by_cases hn : m.count < 1 ∨ 64 < m.count
    · rw [if_pos hn]
      have HCN := Lib.hid (fun W => counted_no W m.count 64 hn)
      clear hn
      go_enter Try.func10, Try.ntmps10
      go_wp2_with fail
      refine (HC.out _).mono ?_; rintro e w1 ⟨rfl, o1⟩
      obtain ⟨g0, -, -, -, -, -, -, -, -, g9, g10, -, -, -, g14, g15, g16, g81⟩ := HF.out _ (o1.has B0 (fun f => f))
      rw [hk] at g0
      go_wp2_with (go_at_call 25; (with_reducible refine (HCN.out _).mono ?_); rintro e w' ⟨rfl, rfl⟩)
      go_ret
      exact ⟨rfl, O0.trans o1⟩
    · rw [if_neg hn]
      have HCN := Lib.hid (fun W => counted_yes W m.count 64 (by omega) (by omega))
      clear hn
      go_enter Try.func10, Try.ntmps10
      go_wp2_with fail
      refine (HC.out _).mono ?_; rintro e w1 ⟨rfl, o1⟩
      obtain ⟨g0, -, -, -, -, -, -, -, -, g9, g10, -, -, -, g14, g15, g16, g81⟩ := HF.out _ (o1.has B0 (fun f => f))
      rw [hk] at g0
      go_wp2_with (go_at_call 25; (with_reducible refine (HCN.out _).mono ?_); rintro e w' ⟨rfl, rfl⟩)
      go_big_quiet (fail)
      go_wp2_with fail
      all_goals (refine wp_loop_rounds 1 ?_; rw [rounds_succ])
      all_goals go_wp2_with fail
      all_goals (refine wp_loop_rounds 1 ?_; rw [rounds_succ])
      all_goals go_wp2_with fail
      all_goals go_ret
      all_goals exact ⟨rfl, (O0.trans o1).drewN _⟩
  · rw [show ticketC m = m.c.check from if_pos hcc]
    have h1 : (m.c.check != 0) = true := by simpa using hcc
    clear hcc hAw hAs hs
    generalize m.c.check = x at *
    go_enter Try.func10, Try.ntmps10
    go_wp2_with fail
    refine (HC.out _).mono ?_; rintro e w1 ⟨rfl, o1⟩
    obtain ⟨g0, -, -, -, g4, g5, g6, g7, g8, -, -, -, -, -, -, -, -, -⟩ := HF.out _ (o1.has B0 (fun f => f))
    rw [hk] at g0
    go_wp2_with fail
    refine (HC.out _).mono ?_; rintro e w2 ⟨rfl, o2⟩
    go_wp2_with fail
    go_ret
    exact ⟨rfl, O0.trans (o1.trans o2)⟩
set_option maxRecDepth 100000 in
set_option maxHeartbeats 4000000 in
theorem rmcheck1 (w : World) (m : Mg) (vw vs : Value) (h : MgAt w m vw vs) (hs : m.Short) (hk : m.kind = 1) : Calls Try.prog 10 #[.agg (m.cells vw vs).toArray] w fun e w' => e = .returned (.int .i64 m.check) ∧ Only (fun _ => False) w w' := by
  rw [Mg.check1 hk]
  have O0 := (Only.refl (fun _ => False) w).alloc (.cells (m.cells vw vs).toArray 32)
  have B0 := Has.new w 32 (m.cells vw vs).toArray
  have hsz : (m.cells vw vs).toArray.size = 82 := by simpa using Mg.cells_length h.ok vw vs
  have HF := Lib.hid (fun W (h2 : Has W w.heap.size 32 (m.cells vw vs).toArray) => mf_of h2 h.ok)
  have hdat := h.ok.data
  have hlw := h.ok.lw
  obtain ⟨hc0, hc1⟩ := h.ok.count
  obtain ⟨ho0, ho1⟩ := h.ok.opened
  obtain ⟨hw0, hw1⟩ := h.ok.width
  have HC := Lib.hid (fun W => srcheck_any W m.c)
  obtain ⟨Aw, cw, rfl, hAw⟩ := h.words
  obtain ⟨As, cs, rfl, hAs⟩ := h.shares
  generalize (m.cells (.slice Aw m.words.length cw) (.slice As m.shares.length cs)).toArray = css at *
  obtain ⟨f0, -, -, -, f4, f5, f6, f7, f8, -, -, -, -, -, -, -, -, -⟩ := HF.out _ B0
  rw [hk] at f0
  by_cases hcc : m.c.check = 0
  · rw [hcc] at HC
    rw [show batchC m = if m.count < 1 ∨ 24 < m.count ∨ m.count < m.opened then 1 else 0 from if_neg (by simpa using hcc)]
    clear hcc hAw hAs hs
    by_cases hn : m.count < 1 ∨ 24 < m.count
    · rw [if_pos (by omega)]
      have HCN := Lib.hid (fun W => counted_no W m.count 24 hn)
      clear hn
      go_enter Try.func10, Try.ntmps10
      go_wp2_with fail
      refine (HC.out _).mono ?_; rintro e w1 ⟨rfl, o1⟩
      obtain ⟨g0, -, -, -, -, -, -, -, -, g9, g10, -, -, -, g14, g15, g16, g81⟩ := HF.out _ (o1.has B0 (fun f => f))
      rw [hk] at g0
      go_wp2_with (go_at_call 25; (with_reducible refine (HCN.out _).mono ?_); rintro e w' ⟨rfl, rfl⟩)
      go_ret
      exact ⟨rfl, O0.trans o1⟩
    · have HCN := Lib.hid (fun W => counted_yes W m.count 24 (by omega) (by omega))
      by_cases hn2 : m.count < m.opened
      · rw [if_pos (by omega)]
        clear hn
        go_enter Try.func10, Try.ntmps10
        go_wp2_with fail
        refine (HC.out _).mono ?_; rintro e w1 ⟨rfl, o1⟩
        obtain ⟨g0, -, -, -, -, -, -, -, -, g9, g10, -, -, -, g14, g15, g16, g81⟩ := HF.out _ (o1.has B0 (fun f => f))
        rw [hk] at g0
        go_wp2_with (go_at_call 25; (with_reducible refine (HCN.out _).mono ?_); rintro e w' ⟨rfl, rfl⟩)
        go_ret
        exact ⟨rfl, O0.trans o1⟩
      · rw [if_neg (by omega)]
        clear hn
        go_enter Try.func10, Try.ntmps10
        go_wp2_with fail
        refine (HC.out _).mono ?_; rintro e w1 ⟨rfl, o1⟩
        obtain ⟨g0, -, -, -, -, -, -, -, -, g9, g10, -, -, -, g14, g15, g16, g81⟩ := HF.out _ (o1.has B0 (fun f => f))
        rw [hk] at g0
        go_wp2_with (go_at_call 25; (with_reducible refine (HCN.out _).mono ?_); rintro e w' ⟨rfl, rfl⟩)
        go_big_quiet (fail)
        go_wp2_with fail
        all_goals (refine wp_loop_rounds 1 ?_; rw [rounds_succ])
        all_goals go_wp2_with fail
        all_goals (refine wp_loop_rounds 1 ?_; rw [rounds_succ])
        all_goals go_wp2_with fail
        all_goals go_ret
        all_goals exact ⟨rfl, (O0.trans o1).drewN _⟩
  · rw [show batchC m = m.c.check from if_pos hcc]
    have h1 : (m.c.check != 0) = true := by simpa using hcc
    clear hcc hAw hAs hs
    generalize m.c.check = x at *
    go_enter Try.func10, Try.ntmps10
    go_wp2_with fail
    refine (HC.out _).mono ?_; rintro e w1 ⟨rfl, o1⟩
    obtain ⟨g0, -, -, -, g4, g5, g6, g7, g8, -, -, -, -, -, -, -, -, -⟩ := HF.out _ (o1.has B0 (fun f => f))
    rw [hk] at g0
    go_wp2_with fail
    refine (HC.out _).mono ?_; rintro e w2 ⟨rfl, o2⟩
    go_wp2_with fail
    go_ret
    exact ⟨rfl, O0.trans (o1.trans o2)⟩
end Go.Proofs.Ytbajgbjpaliecaa
