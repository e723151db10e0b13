/- Layer 10: Name; Small. -/
import Derived.Test.YtbajgbjpaliecaaMk
set_option linter.unusedSimpArgs false
set_option linter.unusedVariables false
namespace Go.Proofs.Ytbajgbjpaliecaa
open Go.RowKit

def nmL : List ByteArray := [⟨#[117, 110, 107, 110, 111, 119, 110]⟩, ⟨#[115, 116, 97, 114, 116]⟩, ⟨#[99, 111, 108, 115]⟩, ⟨#[99, 111, 114, 114]⟩, ⟨#[99, 111, 109, 109, 105, 116]⟩, ⟨#[114, 101, 118, 101, 97, 108]⟩, ⟨#[111, 112, 101, 110]⟩, ⟨#[118, 101, 114, 100, 105, 99, 116]⟩, ⟨#[109, 97, 114, 107]⟩, ⟨#[119, 97, 110, 116]⟩, ⟨#[103, 114, 97, 110, 116]⟩, ⟨#[100, 101, 110, 121]⟩, ⟨#[97, 99, 107]⟩, ⟨#[97, 98, 111, 114, 116]⟩]
def nmOf (k : Int) : ByteArray := if 0 < k ∧ k < 14 then nmL.getD k.toNat ByteArray.empty else ⟨#[117, 110, 107, 110, 111, 119, 110]⟩
def nmCells : Array Value := (nmL.map Value.string).toArray
theorem nm_cell {k : Nat} (h : k < 14) : nmCells[k]? = some (.string (nmL.getD k ByteArray.empty)) := by
  have h2 : k < nmL.length := h
  unfold nmCells
  rw [List.getElem?_toArray, List.getElem?_map, List.getD_eq_getElem?_getD, List.getElem?_eq_getElem h2]
  rfl
theorem nm_get {k : Nat} (h : k < 14) : (nmL.map Value.string)[k]'(by rw [List.length_map]; exact h) = .string (nmL.getD k ByteArray.empty) := by
  have h2 : k < nmL.length := h
  rw [List.getElem_map, List.getD_eq_getElem?_getD, List.getElem?_eq_getElem h2]
  rfl
set_option maxRecDepth 100000 in
theorem name_any (w : World) (k : Int) : Calls Try.prog 11 #[.int .i64 k] w fun e w' => e = .returned (.string (nmOf k)) ∧ Only (fun _ => False) w w' := by
  have B0 : Has (w.alloc (.cells nmCells 9)) w.heap.size 9 nmCells := Has.new _ _ _
  have O0 : Only (fun _ => False) w (w.alloc (.cells nmCells 9)) := (Only.refl _ _).alloc _
  have q0 := (B0.cell 0).trans (nm_cell (k := 0) (by decide))
  by_cases h1 : k < 0
  · rw [show nmOf k = ⟨#[117, 110, 107, 110, 111, 119, 110]⟩ from if_neg (by omega)]
    go_enter Try.func11, Try.ntmps11
    go_wp2_with fail
    go_ret
    exact ⟨rfl, O0⟩
  · by_cases h2 : 14 ≤ k
    · rw [show nmOf k = ⟨#[117, 110, 107, 110, 111, 119, 110]⟩ from if_neg (by omega)]
      go_enter Try.func11, Try.ntmps11
      go_wp2_with fail
      go_ret
      exact ⟨rfl, O0⟩
    · obtain ⟨j, rfl⟩ := Int.eq_ofNat_of_zero_le (show 0 ≤ k by omega)
      have qj := (B0.cell j).trans (nm_cell (k := j) (by omega))
      have e : nmOf (j : Int) = nmL.getD j ByteArray.empty := by
        by_cases h : 0 < j
        · exact if_pos (by omega)
        · obtain rfl : j = 0 := by omega
          rfl
      have h3 : (j : Int) < 14 := by omega
      rw [e]
      have HZ := Lib.hid (nm_get (k := j) (by omega))
      clear e
      generalize nmL.getD j ByteArray.empty = z at *
      have hj14 : j < 14 := by omega
      go_enter Try.func11, Try.ntmps11
      go_wp2_with fail
      go_ret
      exact ⟨congrArg Ending.returned HZ.out, O0⟩
/-- Small, whatever it says. -/
def SmallU (e : Ending) : Prop := ∃ b, e = .returned (.bool b)
set_option maxRecDepth 100000 in
set_option maxHeartbeats 2000000 in
theorem small_some (w : World) (m : Mg) (vw vs : Value) (h : MgAt w m vw vs) : Calls Try.prog 6 #[.agg (m.cells vw vs).toArray] w fun e w' => SmallU e ∧ Only (fun _ => False) w w' := by
  have O0 := (Only.refl (fun _ => False) w).alloc (.cells (m.cells vw vs).toArray 32)
  have B0 := Has.new w 32 (m.cells vw vs).toArray
  have hsz : (m.cells vw vs).toArray.size = 82 := by simpa using Mg.cells_length h.ok vw vs
  have HF := Lib.hid (fun W (h2 : Has W w.heap.size 32 (m.cells vw vs).toArray) => mf_of h2 h.ok)
  obtain ⟨Aw, cw, rfl, -⟩ := h.words
  obtain ⟨As, cs, rfl, hAs⟩ := h.shares
  generalize (m.cells (.slice Aw m.words.length cw) (.slice As m.shares.length cs)).toArray = css at *
  obtain ⟨-, -, -, -, -, -, -, -, -, -, -, -, -, -, f14, -, f16, f81⟩ := HF.out _ B0
  have HU := Lib.hid (show ∀ b, SmallU (.returned (.bool b)) from fun b => ⟨b, rfl⟩)
  have HO := Lib.hid O0
  have HA := Lib.hid hAs
  clear h hsz O0 hAs
  go_enter Try.func6, Try.ntmps6
  go_wp2_with fail
  go_loopw [3, 4] (fun n i W => ∃ (k : Nat) (x : Int), k ≤ m.shares.length ∧ k ≤ 31 ∧ i = .int .i64 k ∧ n = .int .i64 x ∧ ∃ q, W = (w.alloc (.cells css 32)).drewN q) (fun _ i _ => 31 - (intOf i).toNat)
  case atStart => exact ⟨0, _, by omega, by omega, rfl, rfl, 0, rfl⟩
  case round =>
    obtain ⟨k, x, hk, hk31, rfl, rfl, q, rfl⟩ := hrel
    by_cases hlt : k < m.shares.length ∧ k ≤ 30
    · obtain ⟨hl1, hl2⟩ := hlt
      obtain ⟨ad, va, vb, vc, rfl, x0, x1, x2, hsh⟩ := HA.out k hl1
      have c0 := HO.out.cell x0 (fun f => f)
      have c1 := row_cell (by decide) (HO.out.cell x1 (fun f => f))
      have c2 := row_cell (by decide) (HO.out.cell x2 (fun f => f))
      obtain ⟨A1, e1, rfl, -⟩ := hsh.a
      obtain ⟨A2, e2, rfl, -⟩ := hsh.b
      obtain ⟨A3, e3, rfl, -⟩ := hsh.c
      have hk0 : (0 : Int) ≤ (k : Int) := by omega
      have hk1 : (k : Int) < (m.shares.length : Int) := by omega
      have hk2 : (k : Int) ≤ 30 := by omega
      clear x0 x1 x2 hsh
      generalize m.shares[k] = s at *
      generalize s.a.length = n1 at *
      generalize s.b.length = n2 at *
      generalize s.c.length = n3 at *
      go_wp2_with fail
      go_big_quiet (fail)
      go_wp2_with fail
      go_roundw
      case rel => exact ⟨k + 1, _, by omega, by omega, by go_num, rfl, _, rfl⟩
      case measure => simp only [intOf]; omega
    · have hend : k = m.shares.length ∨ (k < m.shares.length ∧ k = 31) := by omega
      clear hlt
      rcases hend with rfl | ⟨h1, rfl⟩
      · go_wp2_with fail
        all_goals go_ret
        all_goals exact ⟨HU.out _, HO.out.drewN _⟩
      · have h1 : ((31 : Nat) : Int) < (m.shares.length : Int) := by omega
        go_wp2_with fail
        all_goals go_ret
        all_goals exact ⟨HU.out _, HO.out.drewN _⟩
end Go.Proofs.Ytbajgbjpaliecaa
