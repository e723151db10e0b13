/- msg.Check. -/
import Derived.Test.YtbajgbjpaliecaaMc
import Derived.BigQuiet
import Derived.Deep.QuietTactic
set_option linter.unusedSimpArgs false
set_option linter.unusedVariables false
namespace Go.Proofs.Ytbajgbjpaliecaa
open Go.RowKit

theorem Mg.check1 {m : Mg} (h : m.kind = 1) : m.check = batchC m := by unfold Mg.check; rw [if_pos h]; rfl
theorem Mg.check2 {m : Mg} (h : m.kind = 2) : m.check = if m.count < 1 ∨ 512 < m.count then 2 else if (m.data.size : Int) ≠ colSize m.count then 11 else 0 := by unfold Mg.check; rw [if_neg (by omega), if_pos h]
theorem Mg.check3 {m : Mg} (h : m.kind = 3) : m.check = wordsC m := by unfold Mg.check; rw [if_neg (by omega), if_neg (by omega), if_pos h]; rfl
theorem Mg.check6 {m : Mg} (h : m.kind = 6) : m.check = sharesC m := by unfold Mg.check; rw [if_neg (by omega), if_neg (by omega), if_neg (by omega), if_pos h]; rfl
theorem Mg.check8 {m : Mg} (h : m.kind = 8) : m.check = m.c.check := by unfold Mg.check; rw [if_neg (by omega), if_neg (by omega), if_neg (by omega), if_neg (by omega), if_pos h]
theorem Mg.check9 {m : Mg} (h : m.kind = 9 ∨ m.kind = 10) : m.check = ticketC m := by unfold Mg.check; rw [if_neg (by omega), if_neg (by omega), if_neg (by omega), if_neg (by omega), if_neg (by omega), if_pos h]; rfl
theorem Mg.check4 {m : Mg} (h : m.kind = 4 ∨ m.kind = 5 ∨ m.kind = 7 ∨ m.kind = 11 ∨ m.kind = 12 ∨ m.kind = 13) : m.check = 0 := by unfold Mg.check; rw [if_neg (by omega), if_neg (by omega), if_neg (by omega), if_neg (by omega), if_neg (by omega), if_neg (by omega), if_pos h]
theorem Mg.check0 {m : Mg} (h : m.kind < 1 ∨ 13 < m.kind) : m.check = 15 := by unfold Mg.check; rw [if_neg (by omega), if_neg (by omega), if_neg (by omega), if_neg (by omega), if_neg (by omega), if_neg (by omega), if_neg (by omega)]
set_option maxRecDepth 100000 in
set_option maxHeartbeats 4000000 in
theorem mcheck_any (w : World) (m : Mg) (vw vs : Value) (h : MgAt w m vw vs) (hs : m.Short) : Calls Try.prog 8 #[.agg (m.cells vw vs).toArray] w fun e w' => e = .returned (.int .i64 m.check) ∧ Only (fun _ => False) w w' := by
  have O0 := (Only.refl (fun _ => False) w).alloc (.cells (m.cells vw vs).toArray 39)
  have B0 := Has.new w 39 (m.cells vw vs).toArray
  have hsz : (m.cells vw vs).toArray.size = 82 := by simpa using Mg.cells_length h.ok vw vs
  have F := mf_of B0 h.ok
  have hdat := h.ok.data
  obtain ⟨hc0, hc1⟩ := h.ok.count
  have HB := Lib.hid (fun W => batch_any W m vw vs h.ok)
  have HT := Lib.hid (fun W => ticket_any W m vw vs h.ok)
  have HW := Lib.hid (fun W (o : Only (fun _ => False) w W) => mwords_any W m vw vs h.ok (h.words.only o))
  have HS := Lib.hid (fun W (o : Only (fun _ => False) w W) => shares_any W m vw vs h.ok hs (h.shares.only o))
  have HC := Lib.hid (fun W => scheck_any W m.c)
  generalize (m.cells vw vs).toArray = cs at *
  obtain ⟨f0, -, -, -, f4, f5, f6, f7, f8, f9, f10, -, -, -, f14, -, -, -⟩ := F
  clear h hs
  have hk : m.kind = 1 ∨ m.kind = 2 ∨ m.kind = 3 ∨ m.kind = 6 ∨ m.kind = 8 ∨ (m.kind = 9 ∨ m.kind = 10) ∨ (m.kind = 4 ∨ m.kind = 5 ∨ m.kind = 7 ∨ m.kind = 11 ∨ m.kind = 12 ∨ m.kind = 13) ∨ (m.kind < 1 ∨ 13 < m.kind) := by omega
  rcases hk with hk | hk | hk | hk | hk | hk | hk | hk
  · rw [Mg.check1 hk]
    rw [hk] at f0
    generalize batchC m = r at *
    go_enter Try.func8, Try.ntmps8
    go_wp2_with fail
    refine wp_load_msg rfl rfl B0 hsz ?_
    go_wp2_with fail
    refine (HB.out _).mono ?_; rintro e w1 ⟨rfl, o1⟩
    go_wp2_with fail
    go_ret
    exact ⟨rfl, O0.trans o1⟩
  · rw [Mg.check2 hk]
    rw [hk] at f0
    by_cases h1 : m.count < 1
    · rw [if_pos (by omega)]
      go_enter Try.func8, Try.ntmps8
      go_wp2_with fail
      go_ret
      exact ⟨rfl, O0⟩
    · by_cases h2 : 512 < m.count
      · rw [if_pos (by omega)]
        go_enter Try.func8, Try.ntmps8
        go_wp2_with fail
        go_ret
        exact ⟨rfl, O0⟩
      · rw [if_neg (by omega)]
        have HCS := Lib.hid (fun W => colsize_any W m.count hc0 hc1)
        by_cases h3 : (m.data.size : Int) = colSize m.count
        · rw [if_neg (by simpa using h3)]
          have h4 : ((m.data.size : Int) == colSize m.count) = true := by simpa using h3
          have h5 : ((m.data.size : Int) != colSize m.count) = false := by simpa using h3
          clear h3
          generalize colSize m.count = r at *
          go_enter Try.func8, Try.ntmps8
          go_wp2_with fail
          go_big_quiet ((go_at_call 12; exact Calls.quiet_of_same (calls_flip (HCS.out _))))
          go_wp2_with fail
          go_ret
          exact ⟨rfl, O0.drewN _⟩
        · rw [if_pos h3]
          have h4 : ((m.data.size : Int) == colSize m.count) = false := by simpa using h3
          have h5 : ((m.data.size : Int) != colSize m.count) = true := by simpa using h3
          clear h3
          generalize colSize m.count = r at *
          go_enter Try.func8, Try.ntmps8
          go_wp2_with fail
          go_big_quiet ((go_at_call 12; exact Calls.quiet_of_same (calls_flip (HCS.out _))))
          go_wp2_with fail
          go_ret
          exact ⟨rfl, O0.drewN _⟩
  · rw [Mg.check3 hk]
    rw [hk] at f0
    generalize wordsC m = r at *
    go_enter Try.func8, Try.ntmps8
    go_wp2_with fail
    refine wp_load_msg rfl rfl B0 hsz ?_
    go_wp2_with fail
    refine (HW.out _ O0).mono ?_; rintro e w1 ⟨rfl, o1⟩
    go_wp2_with fail
    go_ret
    exact ⟨rfl, O0.trans o1⟩
  · rw [Mg.check6 hk]
    rw [hk] at f0
    generalize sharesC m = r at *
    go_enter Try.func8, Try.ntmps8
    go_wp2_with fail
    refine wp_load_msg rfl rfl B0 hsz ?_
    go_wp2_with fail
    refine (HS.out _ O0).mono ?_; rintro e w1 ⟨rfl, o1⟩
    go_wp2_with fail
    go_ret
    exact ⟨rfl, O0.trans o1⟩
  · rw [Mg.check8 hk]
    rw [hk] at f0
    go_enter Try.func8, Try.ntmps8
    go_wp2_with fail
    refine (HC.out _).mono ?_; rintro e w1 ⟨rfl, o1⟩
    go_wp2_with fail
    go_ret
    exact ⟨rfl, O0.trans o1⟩
  · rw [Mg.check9 hk]
    generalize ticketC m = r at *
    rcases hk with hk | hk
    all_goals
      rw [hk] at f0
      go_enter Try.func8, Try.ntmps8
      go_wp2_with fail
      refine wp_load_msg rfl rfl B0 hsz ?_
      go_wp2_with fail
      refine (HT.out _).mono ?_; rintro e w1 ⟨rfl, o1⟩
      go_wp2_with fail
      go_ret
      exact ⟨rfl, O0.trans o1⟩
  · rw [Mg.check4 hk]
    rcases hk with hk | hk | hk | hk | hk | hk
    all_goals
      rw [hk] at f0
      go_enter Try.func8, Try.ntmps8
      go_wp2_with fail
      go_ret
      exact ⟨rfl, O0⟩
  · rw [Mg.check0 hk]
    have k1 : (m.kind == 1) = false := by simp; omega
    have k2 : (m.kind == 2) = false := by simp; omega
    have k3 : (m.kind == 3) = false := by simp; omega
    have k4 : (m.kind == 4) = false := by simp; omega
    have k5 : (m.kind == 5) = false := by simp; omega
    have k6 : (m.kind == 6) = false := by simp; omega
    have k7 : (m.kind == 7) = false := by simp; omega
    have k8 : (m.kind == 8) = false := by simp; omega
    have k9 : (m.kind == 9) = false := by simp; omega
    have k10 : (m.kind == 10) = false := by simp; omega
    have k11 : (m.kind == 11) = false := by simp; omega
    have k12 : (m.kind == 12) = false := by simp; omega
    have k13 : (m.kind == 13) = false := by simp; omega
    clear hk
    go_enter Try.func8, Try.ntmps8
    go_wp2_with fail
    go_ret
    exact ⟨rfl, O0⟩
end Go.Proofs.Ytbajgbjpaliecaa
