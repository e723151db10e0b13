/- The law ShapeNames. -/
import Derived.Test.YtigcfgmblnbleaaDoorPl
import Derived.Test.YtigcfgmblnbleaaDoorNm
import Derived.Test.YtigcfgmblnbleaaDoorSa
set_option linter.unusedSimpArgs false
set_option linter.unusedVariables false
namespace Go.Proofs.YtigcfgmblnbleaaDoor
open Go.RowKit

set_option maxRecDepth 100000 in
set_option maxHeartbeats 4000000 in
theorem names_law (w : World) (c : Cl) (s : ByteArray) (hM : Ml w) : Calls Tryd.prog 4 #[.agg c.cells, .string s] w fun e w' => e = .returned (.bool true) ∧ Only (fun _ => False) w w' := by
  have HM := Lib.hid hM
  clear hM
  by_cases hz : s.size ≤ 200
  · have H1 := fun W (h : Ml W) => parse_any W s h (by omega)
    have H2 := fun W => rparse_any W s (by omega)
    have H3 := fun W => sname_any W c
    have H4 := fun W => rname_any W c
    rw [← parse_eq] at H2
    generalize parseF s = R at *
    generalize nameF c = N at *
    obtain ⟨⟨a0, a1, a2, a3, a4⟩, x⟩ := R
    obtain ⟨kind, bits, m, k, n⟩ := c
    simp only [Cl.cells] at *
    replace H1 := Lib.hid H1
    replace H2 := Lib.hid H2
    replace H3 := Lib.hid H3
    replace H4 := Lib.hid H4
    have hz' : ¬ (200 : Int) < (s.size : Int) := by omega
    clear hz
    go_enter Tryd.func4, Tryd.ntmps4
    have O0 : Only (fun _ => False) w (w.alloc (.cells #[.int .i64 kind, .int .i64 bits, .int .i64 m, .int .i64 k, .int .i64 n] 23)) := (Only.refl _ _).alloc _
    go_wp2_with fail
    refine (H1.out _ (HM.out.only O0)).mono ?_; rintro e w1 ⟨rfl, o1⟩
    have O1 := O0.trans o1
    have C1 : CAt w1 w.heap.size kind bits m k n := o1.has (Has.new w _ _) (fun f => f)
    clear O0 o1
    go_wp2_with fail
    refine (H2.out _).mono ?_; rintro e w2 ⟨rfl, o2⟩
    have A2 : CAt w2 w1.heap.size a0 a1 a2 a3 a4 := o2.has (Has.new w1 _ _) (fun f => f)
    have C2 : CAt w2 w.heap.size kind bits m k n := o2.has (C1.alloc _) (fun f => f)
    have O2 := (O1.alloc (.cells #[.int .i64 a0, .int .i64 a1, .int .i64 a2, .int .i64 a3, .int .i64 a4] 23)).trans o2
    clear O1 o2 C1
    have B3 : CAt (w2.alloc (.cells #[.int .i64 a0, .int .i64 a1, .int .i64 a2, .int .i64 a3, .int .i64 a4] 23)).drew w2.heap.size a0 a1 a2 a3 a4 := (Has.new _ _ _).drew
    have A3 : CAt (w2.alloc (.cells #[.int .i64 a0, .int .i64 a1, .int .i64 a2, .int .i64 a3, .int .i64 a4] 23)).drew w1.heap.size a0 a1 a2 a3 a4 := (A2.alloc _).drew
    have C3 : CAt (w2.alloc (.cells #[.int .i64 a0, .int .i64 a1, .int .i64 a2, .int .i64 a3, .int .i64 a4] 23)).drew w.heap.size kind bits m k n := (C2.alloc _).drew
    have O3 : Only (fun _ => False) w (w2.alloc (.cells #[.int .i64 a0, .int .i64 a1, .int .i64 a2, .int .i64 a3, .int .i64 a4] 23)).drew := (O2.alloc _).drew
    go_wp2_with fail
    go_region_held3 (fun W => (W.cell? ⟨w.heap.size, 0, none⟩ = some (.int .i64 kind) ∧ W.cell? ⟨w.heap.size, 1, none⟩ = some (.int .i64 bits) ∧ W.cell? ⟨w.heap.size, 2, none⟩ = some (.int .i64 m) ∧ W.cell? ⟨w.heap.size, 3, none⟩ = some (.int .i64 k) ∧ W.cell? ⟨w.heap.size, 4, none⟩ = some (.int .i64 n)) ∧ (W.cell? ⟨w1.heap.size, 0, none⟩ = some (.int .i64 a0) ∧ W.cell? ⟨w1.heap.size, 1, none⟩ = some (.int .i64 a1) ∧ W.cell? ⟨w1.heap.size, 2, none⟩ = some (.int .i64 a2) ∧ W.cell? ⟨w1.heap.size, 3, none⟩ = some (.int .i64 a3) ∧ W.cell? ⟨w1.heap.size, 4, none⟩ = some (.int .i64 a4)) ∧ (W.cell? ⟨w2.heap.size, 0, none⟩ = some (.int .i64 a0) ∧ W.cell? ⟨w2.heap.size, 1, none⟩ = some (.int .i64 a1) ∧ W.cell? ⟨w2.heap.size, 2, none⟩ = some (.int .i64 a2) ∧ W.cell? ⟨w2.heap.size, 3, none⟩ = some (.int .i64 a3) ∧ W.cell? ⟨w2.heap.size, 4, none⟩ = some (.int .i64 a4)) ∧ Only (fun _ => False) w W) (exact ⟨cl_facts (b := w.heap.size) (by assumption), cl_facts (b := w1.heap.size) (by assumption), cl_facts (b := w2.heap.size) (by assumption), by assumption⟩) (first
      | (go_at_call 22; refine (H3.out _).mono ?_; rintro e w5 ⟨rfl, o5⟩; have C5 : CAt w5 w.heap.size kind bits m k n := Only.has o5 (by assumption) (fun f => f); have A5 : CAt w5 w1.heap.size a0 a1 a2 a3 a4 := Only.has o5 (by assumption) (fun f => f); have B5 : CAt w5 w2.heap.size a0 a1 a2 a3 a4 := Only.has o5 (by assumption) (fun f => f); have O5 : Only (fun _ => False) w w5 := Only.trans (by assumption) o5)
      | (go_at_call 23; refine (H4.out _).mono ?_; rintro e w6 ⟨rfl, o6⟩; have C6 : CAt w6 w.heap.size kind bits m k n := Only.has o6 (by assumption) (fun f => f); have A6 : CAt w6 w1.heap.size a0 a1 a2 a3 a4 := Only.has o6 (by assumption) (fun f => f); have B6 : CAt w6 w2.heap.size a0 a1 a2 a3 a4 := Only.has o6 (by assumption) (fun f => f); have O6 : Only (fun _ => False) w w6 := Only.trans (by assumption) o6)
      | (go_at_call 19; refine (awake09_any _ (HM.out.only (by assumption))).mono ?_; rintro e w7 ⟨rfl, o7⟩; have C7 : CAt w7 w.heap.size kind bits m k n := Only.has o7 (by assumption) (fun f => f); have A7 : CAt w7 w1.heap.size a0 a1 a2 a3 a4 := Only.has o7 (by assumption) (fun f => f); have B7 : CAt w7 w2.heap.size a0 a1 a2 a3 a4 := Only.has o7 (by assumption) (fun f => f); have O7 : Only (fun _ => False) w w7 := Only.trans (by assumption) o7))
    rename_i hS
    have O := hS.2.2.2
    clear hS
    go_wp2_with fail
    go_ret
    exact ⟨rfl, O⟩
  · have hz' : (200 : Int) < (s.size : Int) := by omega
    obtain ⟨kind, bits, m, k, n⟩ := c
    simp only [Cl.cells] at *
    have O0 : Only (fun _ => False) w (w.alloc (.cells #[.int .i64 kind, .int .i64 bits, .int .i64 m, .int .i64 k, .int .i64 n] 23)) := (Only.refl _ _).alloc _
    clear hz
    go_enter Tryd.func4, Tryd.ntmps4
    go_wp2_with fail
    refine (awake09_any _ (HM.out.only O0)).mono ?_; rintro e w7 ⟨rfl, o7⟩
    go_wp2_with fail
    go_ret
    exact ⟨rfl, O0.trans o7⟩
end Go.Proofs.YtigcfgmblnbleaaDoor
