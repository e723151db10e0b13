/- Layer 10: Small, what it tells; a block of cells written over in its midst. -/
import Derived.Test.YtbajgbjpaliecaaMk
import Derived.Test.YtbajgbjpaliecaaMz
set_option linter.unusedSimpArgs false
set_option linter.unusedVariables false
namespace Go.Proofs.Ytbajgbjpaliecaa
open Go.RowKit

/-- Small, and what follows where it says yes. -/
def SmallT (m : Mg) (e : Ending) : Prop := ∃ b, e = .returned (.bool b) ∧ (b = true → (m.data.size : Int) + m.words.length ≤ 20000 ∧ m.shares.length ≤ 30)
set_option maxRecDepth 100000 in
set_option maxHeartbeats 2000000 in
theorem small_any (w : World) (m : Mg) (vw vs : Value) (h : MgAt w m vw vs) (hz : m.Sz) : Calls Try.prog 6 #[.agg (m.cells vw vs).toArray] w fun e w' => SmallT m e ∧ Only (fun _ => False) w w' := by
  have O0 := (Only.refl (fun _ => False) w).alloc (.cells (m.cells vw vs).toArray 32)
  have B0 := Has.new w 32 (m.cells vw vs).toArray
  have hsz : (m.cells vw vs).toArray.size = 82 := by simpa using Mg.cells_length h.ok vw vs
  have HF := Lib.hid (fun W (h2 : Has W w.heap.size 32 (m.cells vw vs).toArray) => mf_of h2 h.ok)
  obtain ⟨Aw, cw, rfl, -⟩ := h.words
  obtain ⟨As, cs, rfl, hAs⟩ := h.shares
  obtain ⟨z1, z2, z3, z4⟩ := hz
  have HZ := Lib.hid z4
  generalize (m.cells (.slice Aw m.words.length cw) (.slice As m.shares.length cs)).toArray = css at *
  obtain ⟨-, -, -, -, -, -, -, -, -, -, -, -, -, -, f14, -, f16, f81⟩ := HF.out _ B0
  have HU := Lib.hid (show ∀ b, (b = true → (m.data.size : Int) + m.words.length ≤ 20000 ∧ m.shares.length ≤ 30) → SmallT m (.returned (.bool b)) from fun b hb => ⟨b, rfl, hb⟩)
  obtain ⟨P, hP⟩ : ∃ P : Ending → Prop, P = SmallT m := ⟨_, rfl⟩
  rw [← hP] at HU ⊢
  have HO := Lib.hid O0
  have HA := Lib.hid hAs
  have hs0 : IntKind.i64.wrap ((m.data.size : Int) + m.words.length) = (m.data.size : Int) + m.words.length := by rw [IntKind.wrap_i64]; omega
  clear h hsz O0 hAs hP z4
  go_enter Try.func6, Try.ntmps6
  go_wp2_with fail
  go_loopw [3, 4] (fun n i W => ∃ (k : Nat) (x : Int), k ≤ m.shares.length ∧ k ≤ 31 ∧ i = .int .i64 k ∧ n = .int .i64 x ∧ (m.data.size : Int) + m.words.length ≤ x ∧ x ≤ (m.data.size : Int) + m.words.length + (k : Int) * 422212465065984 ∧ ∃ q, W = (w.alloc (.cells css 32)).drewN q) (fun _ i _ => 31 - (intOf i).toNat)
  case atStart => exact ⟨0, _, by omega, by omega, rfl, rfl, by omega, by omega, 0, rfl⟩
  case round =>
    obtain ⟨k, x, hk, hk31, rfl, rfl, hx1, hx2, q, rfl⟩ := hrel
    by_cases hlt : k < m.shares.length ∧ k ≤ 30
    · obtain ⟨hl1, hl2⟩ := hlt
      obtain ⟨ad, va, vb, vc, rfl, x0, x1, x2, hsh⟩ := HA.out k hl1
      have c0 := HO.out.cell x0 (fun f => f)
      have c1 := row_cell (by decide) (HO.out.cell x1 (fun f => f))
      have c2 := row_cell (by decide) (HO.out.cell x2 (fun f => f))
      obtain ⟨y1, y2, y3⟩ := HZ.out _ (List.getElem_mem hl1)
      obtain ⟨A1, e1, rfl, -⟩ := hsh.a
      obtain ⟨A2, e2, rfl, -⟩ := hsh.b
      obtain ⟨A3, e3, rfl, -⟩ := hsh.c
      have hk0 : (0 : Int) ≤ (k : Int) := by omega
      have hk1 : (k : Int) < (m.shares.length : Int) := by omega
      have hk2 : (k : Int) ≤ 30 := by omega
      clear x0 x1 x2 hsh
      generalize m.shares[k] = s at *
      generalize s.a.length = n1 at *
      generalize s.b.length = n2 at *
      generalize s.c.length = n3 at *
      have hb : x ≤ 30000000000000000 := by omega
      have hb0 : 0 ≤ x := by omega
      have hs1 : IntKind.i64.wrap (x + (n1 : Int)) = x + n1 := by rw [IntKind.wrap_i64]; omega
      have hs2 : IntKind.i64.wrap (x + (n1 : Int) + (n2 : Int)) = x + n1 + n2 := by rw [IntKind.wrap_i64]; omega
      have hs3 : IntKind.i64.wrap (x + (n1 : Int) + (n2 : Int) + (n3 : Int)) = x + n1 + n2 + n3 := by rw [IntKind.wrap_i64]; omega
      have HX1 := Lib.hid (show (m.data.size : Int) + m.words.length ≤ x + n1 + n2 + n3 by omega)
      have HX2 := Lib.hid (show x + n1 + n2 + n3 ≤ (m.data.size : Int) + m.words.length + ((k + 1 : Nat) : Int) * 422212465065984 by omega)
      clear hx1 hx2
      go_wp2_with fail
      go_big_quiet (fail)
      clear hs0 hs1 hs2 hs3
      go_wp2_with fail
      go_roundw
      case rel => exact ⟨k + 1, _, by omega, by omega, by go_num, rfl, HX1.out, HX2.out, _, rfl⟩
      case measure => simp only [intOf]; omega
    · have hend : k = m.shares.length ∨ (k < m.shares.length ∧ k = 31) := by omega
      have hb : x ≤ 30000000000000000 := by omega
      clear hlt hs0
      have HX1 := Lib.hid hx1
      clear hx1 hx2
      rcases hend with rfl | ⟨h1, rfl⟩
      · by_cases hn : x ≤ 20000
        · by_cases h30 : m.shares.length ≤ 30
          · have h31 : (m.shares.length : Int) ≤ 30 := by omega
            go_wp2_with fail
            all_goals go_ret
            all_goals exact ⟨HU.out _ (fun _ => ⟨by have := HX1.out; omega, h30⟩), HO.out.drewN _⟩
          · have h31 : ¬ (m.shares.length : Int) ≤ 30 := by omega
            go_wp2_with fail
            all_goals go_ret
            all_goals exact ⟨HU.out _ (fun h => by cases h), HO.out.drewN _⟩
        · go_wp2_with fail
          all_goals go_ret
          all_goals exact ⟨HU.out _ (fun h => by cases h), HO.out.drewN _⟩
      · have h1 : ((31 : Nat) : Int) < (m.shares.length : Int) := by omega
        by_cases hn : x ≤ 20000
        · have h31 : ¬ (m.shares.length : Int) ≤ 30 := by omega
          go_wp2_with fail
          all_goals go_ret
          all_goals exact ⟨HU.out _ (fun h => by cases h), HO.out.drewN _⟩
        · go_wp2_with fail
          all_goals go_ret
          all_goals exact ⟨HU.out _ (fun h => by cases h), HO.out.drewN _⟩
end Go.Proofs.Ytbajgbjpaliecaa
