/- The reference of layer 10: Check, of columns and corrections. -/
import Derived.Test.YtbajgbjpaliecaaMe1
import Derived.Test.YtbajgbjpaliecaaSfr
set_option linter.unusedSimpArgs false
set_option linter.unusedVariables false
namespace Go.Proofs.Ytbajgbjpaliecaa
open Go.RowKit

set_option maxRecDepth 100000 in
set_option maxHeartbeats 4000000 in
theorem rmcheck2 (w : World) (m : Mg) (vw vs : Value) (h : MgAt w m vw vs) (hs : m.Short) (hk : m.kind = 2) : Calls Try.prog 10 #[.agg (m.cells vw vs).toArray] w fun e w' => e = .returned (.int .i64 m.check) ∧ Only (fun _ => False) w w' := by
  rw [Mg.check2 hk]
  have O0 := (Only.refl (fun _ => False) w).alloc (.cells (m.cells vw vs).toArray 32)
  have B0 := Has.new w 32 (m.cells vw vs).toArray
  have hsz : (m.cells vw vs).toArray.size = 82 := by simpa using Mg.cells_length h.ok vw vs
  have HF := Lib.hid (fun W (h2 : Has W w.heap.size 32 (m.cells vw vs).toArray) => mf_of h2 h.ok)
  have hdat := h.ok.data
  have hlw := h.ok.lw
  obtain ⟨hc0, hc1⟩ := h.ok.count
  obtain ⟨ho0, ho1⟩ := h.ok.opened
  obtain ⟨hw0, hw1⟩ := h.ok.width
  have HC := Lib.hid (fun W => srcheck_any W m.c)
  obtain ⟨Aw, cw, rfl, hAw⟩ := h.words
  obtain ⟨As, cs, rfl, hAs⟩ := h.shares
  generalize (m.cells (.slice Aw m.words.length cw) (.slice As m.shares.length cs)).toArray = css at *
  obtain ⟨f0, -, -, -, -, -, -, -, -, f9, -, -, -, -, f14, f15, f16, f81⟩ := HF.out _ B0
  rw [hk] at f0
  clear hAw hAs hs
  by_cases hn : m.count < 1 ∨ 512 < m.count
  · rw [if_pos hn]
    have HCN := Lib.hid (fun W => counted_no W m.count 512 hn)
    clear hn
    go_enter Try.func10, Try.ntmps10
    go_wp2_with (go_at_call 25; (with_reducible refine (HCN.out _).mono ?_); rintro e w' ⟨rfl, rfl⟩)
    go_ret
    exact ⟨rfl, O0⟩
  · rw [if_neg hn]
    have HCN := Lib.hid (fun W => counted_yes W m.count 512 (by omega) (by omega))
    have HCS := Lib.hid (fun W => rcolsize_any W m.count hc0 hc1)
    clear hn
    by_cases h3 : (m.data.size : Int) = colSize m.count
    · rw [if_neg (by simpa using h3)]
      have h4 : ((m.data.size : Int) == colSize m.count) = true := by simpa using h3
      have h5 : ((m.data.size : Int) != colSize m.count) = false := by simpa using h3
      clear h3
      generalize colSize m.count = r at *
      go_enter Try.func10, Try.ntmps10
      go_wp2_with (go_at_call 25; (with_reducible refine (HCN.out _).mono ?_); rintro e w' ⟨rfl, rfl⟩)
      go_big_quiet ((go_at_call 13; exact Calls.quiet_of_same (calls_flip (HCS.out _))))
      go_wp2_with fail
      all_goals (refine wp_loop_rounds 1 ?_; rw [rounds_succ])
      all_goals go_wp2_with fail
      all_goals (refine wp_loop_rounds 1 ?_; rw [rounds_succ])
      all_goals go_wp2_with fail
      all_goals go_ret
      all_goals exact ⟨rfl, O0.drewN _⟩
    · rw [if_pos h3]
      have h4 : ((m.data.size : Int) == colSize m.count) = false := by simpa using h3
      have h5 : ((m.data.size : Int) != colSize m.count) = true := by simpa using h3
      clear h3
      generalize colSize m.count = r at *
      go_enter Try.func10, Try.ntmps10
      go_wp2_with (go_at_call 25; (with_reducible refine (HCN.out _).mono ?_); rintro e w' ⟨rfl, rfl⟩)
      go_big_quiet ((go_at_call 13; exact Calls.quiet_of_same (calls_flip (HCS.out _))))
      go_wp2_with fail
      go_ret
      exact ⟨rfl, O0.drewN _⟩
set_option maxRecDepth 100000 in
set_option maxHeartbeats 4000000 in
theorem rmcheck3 (w : World) (m : Mg) (vw vs : Value) (h : MgAt w m vw vs) (hs : m.Short) (hk : m.kind = 3) : Calls Try.prog 10 #[.agg (m.cells vw vs).toArray] w fun e w' => e = .returned (.int .i64 m.check) ∧ Only (fun _ => False) w w' := by
  rw [Mg.check3 hk]
  have O0 := (Only.refl (fun _ => False) w).alloc (.cells (m.cells vw vs).toArray 32)
  have B0 := Has.new w 32 (m.cells vw vs).toArray
  have hsz : (m.cells vw vs).toArray.size = 82 := by simpa using Mg.cells_length h.ok vw vs
  have HF := Lib.hid (fun W (h2 : Has W w.heap.size 32 (m.cells vw vs).toArray) => mf_of h2 h.ok)
  have hdat := h.ok.data
  have hlw := h.ok.lw
  obtain ⟨hc0, hc1⟩ := h.ok.count
  obtain ⟨ho0, ho1⟩ := h.ok.opened
  obtain ⟨hw0, hw1⟩ := h.ok.width
  have HC := Lib.hid (fun W => srcheck_any W m.c)
  obtain ⟨Aw, cw, rfl, hAw⟩ := h.words
  obtain ⟨As, cs, rfl, hAs⟩ := h.shares
  have hx := h.ok.words
  generalize (m.cells (.slice Aw m.words.length cw) (.slice As m.shares.length cs)).toArray = css at *
  obtain ⟨f0, -, -, -, -, -, -, -, -, f9, -, -, -, -, f14, f15, f16, f81⟩ := HF.out _ B0
  rw [hk] at f0
  obtain ⟨d, hd⟩ := Int.eq_ofNat_of_zero_le hw0
  unfold wordsC
  have HD := Lib.hid hd
  have HK := Lib.hid hk
  rw [hd] at f15 hw1 ⊢
  have hdu : IntKind.u32.wrap (d : Int) = d := by rw [IntKind.wrap_u32]; omega
  clear hs hAs hd hw0
  by_cases hn : (d : Int) < 1 ∨ 64 < (d : Int)
  · rw [if_pos hn]
    have HCN := Lib.hid (fun W => counted_no W (d : Int) 64 hn)
    clear hn hAw hx
    go_enter Try.func10, Try.ntmps10
    go_wp2_with fail
    go_big_quiet ((go_at_call 25; exact Calls.quiet_of_same (calls_flip (HCN.out _))))
    go_wp2_with fail
    go_ret
    exact ⟨rfl, O0.drewN _⟩
  · rw [if_neg hn, show ((d : Int)).toNat = d by omega]
    have HCN := Lib.hid (fun W => counted_yes W (d : Int) 64 (by omega) (by omega))
    have hd1 : 1 ≤ d := by omega
    have hd64 : d ≤ 64 := by omega
    clear hn
    by_cases h3 : 3072 < m.words.length
    · rw [if_pos h3]
      have h3 : (3072 : Int) < m.words.length := by omega
      clear hAw hx
      go_enter Try.func10, Try.ntmps10
      go_wp2_with fail
      go_big_quiet ((go_at_call 25; exact Calls.quiet_of_same (calls_flip (HCN.out _))))
      go_wp2_with fail
      go_ret
      exact ⟨rfl, O0.drewN _⟩
    · rw [if_neg h3]
      have h3 : ¬ (3072 : Int) < m.words.length := by omega
      have HX := Lib.hid hx
      have HO := Lib.hid O0
      have HB := Lib.hid B0
      have HAW := Lib.hid hAw
      obtain ⟨r, hr⟩ : ∃ r : Int, r = if m.words.all (okW d) = true then 0 else 13 := ⟨_, rfl⟩
      rw [← hr]
      have HR := Lib.hid hr
      clear hr hx O0 hAw
      obtain ⟨e, he⟩ : ∃ e : Nat, d = e + 1 := ⟨d - 1, by omega⟩
      have HE := Lib.hid he
      clear he
      go_enter Try.func10, Try.ntmps10
      go_wp2_with fail
      go_big_quiet ((go_at_call 25; exact Calls.quiet_of_same (calls_flip (HCN.out _))))
      go_wp2_with fail
      rename_i wq nq
      go_loopw [3] (fun i W => ∃ k : Nat, k ≤ m.words.length ∧ i = .int .i64 k ∧ (∀ j, (h : j < m.words.length) → j < k → okW d m.words[j] = true) ∧ Only (fun _ => False) (w.alloc (.cells css 32)) W) (fun i _ => m.words.length - (intOf i).toNat)
      case atStart => exact ⟨0, by omega, rfl, fun j h hj => by omega, (Only.refl _ _).drewN _⟩
      case round =>
        obtain ⟨k, hk, rfl, hall, ho⟩ := hrel
        have HALL := Lib.hid hall
        have HHO := Lib.hid ho
        obtain ⟨g0, -, -, -, -, -, -, -, -, -, -, -, -, -, -, g15, g16, g81⟩ := HF.out _ (ho.has HB.out (fun f => f))
        rw [HK.out] at g0
        rw [HD.out] at g15
        clear hall f0 f9 f14 f15 f16 f81 ho
        have hlt' : k < m.words.length ∨ k = m.words.length := by omega
        rcases hlt' with hlt | rfl
        · obtain ⟨ad, rfl, c0⟩ := HAW.out k hlt
          have c0 := (HO.out.trans HHO.out).cell c0 (fun f => f)
          have hx := HX.out m.words[k] (List.getElem_mem hlt)
          have hk1 : (k : Int) < (m.words.length : Int) := by omega
          have HBAD := Lib.hid (show okW d m.words[k] = false → r = 13 from by
            intro h
            rw [HR.out, all_false hlt h]
            rfl)
          have HGOOD := Lib.hid (show okW d m.words[k] = true → ∀ j, (h : j < m.words.length) → j < k + 1 → okW d m.words[j] = true from by
            intro h j hj hjk
            by_cases e : j = k
            · subst e; exact h
            · exact HALL.out j hj (by omega))
          have hhalf := okW_half (x := m.words[k]) (d := d) hx.1 hx.2 (by omega) (by omega)
          generalize m.words[k] = x at *
          obtain ⟨hx0, hx1⟩ := hx
          have he := HE.out
          rw [show d - 1 = e by omega] at hhalf
          have hs1 : IntKind.u8.wrap ((d : Int) - 1) = (e : Int) := by rw [IntKind.wrap_u8]; omega
          have hs2 : IntKind.u64.wrap (e : Int) = (e : Int) := by rw [IntKind.wrap_u64]; omega
          have hq2 : IntKind.u64.wrap (x / 2) = x / 2 := by rw [IntKind.wrap_u64]; omega
          have hmin : min e 64 = e := by omega
          clear he
          by_cases hq : x / 2 / 2 ^ e = 0
          · have HG2 := Lib.hid (HGOOD.out (hhalf.trans (decide_eq_true hq)))
            clear hhalf
            go_wp2_with fail
            go_big_quiet (fail)
            go_wp2_with fail
            go_roundw
            case rel => exact ⟨k + 1, by omega, by go_num, HG2.out, HHO.out.drewN _⟩
            case measure => simp only [intOf]; omega
          · have HB2 := Lib.hid (HBAD.out (hhalf.trans (decide_eq_false hq)))
            have hq' : (x / 2 / 2 ^ e == 0) = false := by simpa using hq
            clear hq hhalf
            go_wp2_with fail
            go_big_quiet (fail)
            go_wp2_with fail
            go_ret
            refine ⟨?_, (HO.out.trans HHO.out).drewN _⟩
            rw [HB2.out]
            rfl
        · have HT := Lib.hid (show r = 0 from by
            rw [HR.out, all_true (fun j hj => HALL.out j hj hj)]
            rfl)
          go_wp2_with fail
          all_goals (refine wp_loop_rounds 1 ?_; rw [rounds_succ])
          all_goals go_wp2_with fail
          all_goals go_ret
          all_goals (refine ⟨?_, HO.out.trans HHO.out⟩; rw [HT.out]; rfl)
end Go.Proofs.Ytbajgbjpaliecaa
