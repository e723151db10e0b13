/- The reference of layer 10: Check, of shares; all kinds. -/
import Derived.Test.YtbajgbjpaliecaaMe2
import Derived.Test.YtbajgbjpaliecaaMe3
set_option linter.unusedSimpArgs false
set_option linter.unusedVariables false
namespace Go.Proofs.Ytbajgbjpaliecaa
open Go.RowKit

set_option maxRecDepth 100000 in
set_option maxHeartbeats 4000000 in
theorem rmcheck6 (w : World) (m : Mg) (vw vs : Value) (h : MgAt w m vw vs) (hs : m.Short) (hk : m.kind = 6) : Calls Try.prog 10 #[.agg (m.cells vw vs).toArray] w fun e w' => e = .returned (.int .i64 m.check) ∧ Only (fun _ => False) w w' := by
  rw [Mg.check6 hk]
  have O0 := (Only.refl (fun _ => False) w).alloc (.cells (m.cells vw vs).toArray 32)
  have B0 := Has.new w 32 (m.cells vw vs).toArray
  have hsz : (m.cells vw vs).toArray.size = 82 := by simpa using Mg.cells_length h.ok vw vs
  have HF := Lib.hid (fun W (h2 : Has W w.heap.size 32 (m.cells vw vs).toArray) => mf_of h2 h.ok)
  have hdat := h.ok.data
  have hlw := h.ok.lw
  obtain ⟨hc0, hc1⟩ := h.ok.count
  obtain ⟨ho0, ho1⟩ := h.ok.opened
  obtain ⟨hw0, hw1⟩ := h.ok.width
  have HC := Lib.hid (fun W => srcheck_any W m.c)
  obtain ⟨Aw, cw, rfl, hAw⟩ := h.words
  obtain ⟨As, cs, rfl, hAs⟩ := h.shares
  generalize (m.cells (.slice Aw m.words.length cw) (.slice As m.shares.length cs)).toArray = css at *
  obtain ⟨f0, -, -, -, f4, f5, f6, f7, f8, -, -, -, -, -, -, -, -, -⟩ := HF.out _ B0
  rw [hk] at f0
  by_cases hcc : m.c.check = 0
  · rw [hcc] at HC
    rw [show sharesC m = if 24 < m.shares.length then 2 else if m.shares.all m.c.fits then 0 else 11 from if_neg (by simpa using hcc)]
    clear hcc hAw
    by_cases h3 : 24 < m.shares.length
    · rw [if_pos h3]
      have h3 : (24 : Int) < m.shares.length := by omega
      clear hAs hs
      go_enter Try.func10, Try.ntmps10
      go_wp2_with fail
      refine (HC.out _).mono ?_; rintro e w1 ⟨rfl, o1⟩
      obtain ⟨g0, -, -, -, -, -, -, -, -, g9, -, -, -, -, g14, g15, g16, g81⟩ := HF.out _ (o1.has B0 (fun f => f))
      rw [hk] at g0
      go_wp2_with fail
      go_big_quiet (fail)
      go_wp2_with fail
      go_ret
      exact ⟨rfl, (O0.trans o1).drewN _⟩
    · rw [if_neg h3]
      have h3 : ¬ (24 : Int) < m.shares.length := by omega
      have HFT := Lib.hid (fun W va vb vc s (h : ShAt W va vb vc s) => rfits_any W m.c va vb vc s h)
      have HSM := Lib.hid hs
      have HA := Lib.hid hAs
      have HO := Lib.hid O0
      have HB := Lib.hid B0
      have HK := Lib.hid hk
      obtain ⟨r, hr⟩ : ∃ r : Int, r = if m.shares.all m.c.fits = true then 0 else 11 := ⟨_, rfl⟩
      rw [← hr]
      have HR := Lib.hid hr
      clear hr hs hAs O0
      go_enter Try.func10, Try.ntmps10
      go_wp2_with fail
      refine (HC.out _).mono ?_; rintro e w1 ⟨rfl, o1⟩
      obtain ⟨g0, -, -, -, -, -, -, -, -, g9, -, -, -, -, g14, g15, g16, g81⟩ := HF.out _ (o1.has B0 (fun f => f))
      rw [hk] at g0
      go_wp2_with fail
      go_big_quiet (fail)
      go_wp2_with fail
      all_goals (refine wp_loop_rounds 1 ?_; rw [rounds_succ])
      all_goals go_wp2_with fail
      all_goals
        have HO1 := Lib.hid o1
        clear g0 g9 g14 g15 g16 g81 f0 f4 f5 f6 f7 f8 o1
        go_loopw [4] (fun i W => ∃ k : Nat, k ≤ m.shares.length ∧ i = .int .i64 k ∧ (∀ j, (h : j < m.shares.length) → j < k → m.c.fits m.shares[j] = true) ∧ Only (fun _ => False) (w.alloc (.cells css 32)) W) (fun i _ => m.shares.length - (intOf i).toNat)
        case atStart => exact ⟨0, by omega, rfl, fun j h hj => by omega, HO1.out.drewN _⟩
        case round =>
          obtain ⟨k, hk2, rfl, hall, ho⟩ := hrel
          have HALL := Lib.hid hall
          have HHO := Lib.hid ho
          have B1 := ho.has HB.out (fun f => f)
          obtain ⟨g0, -, -, -, g4, g5, g6, g7, g8, -, -, -, -, -, -, -, -, g81⟩ := HF.out _ B1
          rw [HK.out] at g0
          clear hall ho
          have hlt' : k < m.shares.length ∨ k = m.shares.length := by omega
          rcases hlt' with hlt | rfl
          · obtain ⟨ad, va, vb, vc, rfl, x0, x1, x2, hsh⟩ := HA.out k hlt
            have oo := HO.out.trans HHO.out
            have c0 := oo.cell x0 (fun f => f)
            have c1 := row_cell (by decide) (oo.cell x1 (fun f => f))
            have c2 := row_cell (by decide) (oo.cell x2 (fun f => f))
            have hAt := (hsh.at (HSM.out _ (List.getElem_mem hlt))).only oo
            obtain ⟨A1, e1, rfl, -⟩ := hsh.a
            obtain ⟨A2, e2, rfl, -⟩ := hsh.b
            obtain ⟨A3, e3, rfl, -⟩ := hsh.c
            clear x0 x1 x2 hsh
            have HAT := Lib.hid hAt
            clear hAt
            have hk0 : (0 : Int) ≤ (k : Int) := by omega
            have hk1 : (k : Int) < (m.shares.length : Int) := by omega
            have HBAD := Lib.hid (show m.c.fits m.shares[k] = false → r = 11 from by
              intro h
              rw [HR.out, all_false hlt h]
              rfl)
            have HGOOD := Lib.hid (show m.c.fits m.shares[k] = true → ∀ j, (h : j < m.shares.length) → j < k + 1 → m.c.fits m.shares[j] = true from by
              intro h j hj hjk
              by_cases e : j = k
              · subst e; exact h
              · exact HALL.out j hj (by omega))
            generalize m.shares[k] = s at *
            generalize s.a.length = n1 at *
            generalize s.b.length = n2 at *
            generalize s.c.length = n3 at *
            have HX := Lib.hid c0
            have HY := Lib.hid c1
            have HZ := Lib.hid c2
            go_wp2_with fail
            cases hfit : m.c.fits s
            all_goals
              have HFT2 := Lib.hid (fun W h => HFT.out W (.slice A1 n1 e1) (.slice A2 n2 e2) (.slice A3 n3 e3) s h)
              rw [hfit] at HFT2
              go_region_held3 (fun W => (W.cell? ⟨w.heap.size, 4, none⟩ = some (.int .i64 m.c.kind) ∧ W.cell? ⟨w.heap.size, 5, none⟩ = some (.int .i64 m.c.bits) ∧ W.cell? ⟨w.heap.size, 6, none⟩ = some (.int .i64 m.c.m) ∧ W.cell? ⟨w.heap.size, 7, none⟩ = some (.int .i64 m.c.k) ∧ W.cell? ⟨w.heap.size, 8, none⟩ = some (.int .i64 m.c.n)) ∧ W.cell? ⟨w.heap.size, 81, none⟩ = some (.slice (some ad) m.shares.length cs) ∧ (W.cell? (ad.add (k * 3)) = some (.slice A1 n1 e1) ∧ W.cell? ⟨(ad.add (k * 3)).block, (ad.add (k * 3)).off + 1, none⟩ = some (.slice A2 n2 e2) ∧ W.cell? ⟨(ad.add (k * 3)).block, (ad.add (k * 3)).off + 2, none⟩ = some (.slice A3 n3 e3)) ∧ Only (fun _ => False) wr W)
                (first | exact ⟨⟨g4, g5, g6, g7, g8⟩, g81, ⟨c0, c1, c2⟩, (Only.refl _ _).drew⟩ | (have oz := (Only.drew (Only.refl (fun _ => False) wr)).trans ob; exact ⟨⟨oz.cell g4 (fun f => f), oz.cell g5 (fun f => f), oz.cell g6 (fun f => f), oz.cell g7 (fun f => f), oz.cell g8 (fun f => f)⟩, oz.cell g81 (fun f => f), ⟨oz.cell c0 (fun f => f), oz.cell c1 (fun f => f), oz.cell c2 (fun f => f)⟩, oz⟩))
                ((go_at_call 26; refine (HFT2.out _ (HAT.out.only (Only.drew (Only.refl (fun _ => False) wr)))).mono ?_; rintro e wb ⟨rfl, ob⟩))
              rename_i hS
              have HS2 := Lib.hid (HHO.out.trans hS.2.2.2)
              clear hS ob
              go_wp2_with fail
            · go_ret
              refine ⟨?_, HO.out.trans HS2.out⟩
              rw [HBAD.out hfit]
              rfl
            · go_roundw
              case rel => exact ⟨k + 1, by omega, by go_num, HGOOD.out hfit, HS2.out⟩
              case measure => simp only [intOf]; omega
          · have HT := Lib.hid (show r = 0 from by
              rw [HR.out, all_true (fun j hj => HALL.out j hj hj)]
              rfl)
            go_wp2_with fail
            go_ret
            refine ⟨?_, HO.out.trans HHO.out⟩
            rw [HT.out]
            rfl
  · rw [show sharesC m = m.c.check from if_pos hcc]
    have h1 : (m.c.check != 0) = true := by simpa using hcc
    clear hcc hAw hAs hs
    generalize m.c.check = x at *
    go_enter Try.func10, Try.ntmps10
    go_wp2_with fail
    refine (HC.out _).mono ?_; rintro e w1 ⟨rfl, o1⟩
    obtain ⟨g0, -, -, -, g4, g5, g6, g7, g8, -, -, -, -, -, -, -, -, -⟩ := HF.out _ (o1.has B0 (fun f => f))
    rw [hk] at g0
    go_wp2_with fail
    refine (HC.out _).mono ?_; rintro e w2 ⟨rfl, o2⟩
    go_wp2_with fail
    go_ret
    exact ⟨rfl, O0.trans (o1.trans o2)⟩
theorem rmcheck_any (w : World) (m : Mg) (vw vs : Value) (h : MgAt w m vw vs) (hs : m.Short) : Calls Try.prog 10 #[.agg (m.cells vw vs).toArray] w fun e w' => e = .returned (.int .i64 m.check) ∧ Only (fun _ => False) w w' := by
  have hk : m.kind = 1 ∨ m.kind = 2 ∨ m.kind = 3 ∨ m.kind = 6 ∨ m.kind = 8 ∨ m.kind = 9 ∨ m.kind = 10 ∨ (m.kind = 4 ∨ m.kind = 5 ∨ m.kind = 7) ∨ (m.kind = 11 ∨ m.kind = 12 ∨ m.kind = 13) ∨ (m.kind < 1 ∨ 13 < m.kind) := by omega
  rcases hk with hk | hk | hk | hk | hk | hk | hk | hk | hk | hk
  · exact rmcheck1 w m vw vs h hs hk
  · exact rmcheck2 w m vw vs h hs hk
  · exact rmcheck3 w m vw vs h hs hk
  · exact rmcheck6 w m vw vs h hs hk
  · exact rmcheck8 w m vw vs h hs hk
  · exact rmcheck9 w m vw vs h hs hk
  · exact rmcheck10 w m vw vs h hs hk
  · exact rmcheck_lo w m vw vs h hs hk
  · exact rmcheck_hi w m vw vs h hs hk
  · exact rmcheck_no w m vw vs h hs hk
end Go.Proofs.Ytbajgbjpaliecaa
