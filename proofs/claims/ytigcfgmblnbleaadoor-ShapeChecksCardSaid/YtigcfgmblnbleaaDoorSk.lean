/- Chapter 9: ShapeChecks walked. -/
import Derived.Test.YtigcfgmblnbleaaDoorSa
import Derived.Deep.RegionHeld3
set_option linter.unusedSimpArgs false
set_option linter.unusedVariables false
namespace Go.Proofs.YtigcfgmblnbleaaDoor
open Go.RowKit

theorem cl_facts {w : World} {b : Nat} {kind bits m k n : Int} (h : Has w b 23 #[.int .i64 kind, .int .i64 bits, .int .i64 m, .int .i64 k, .int .i64 n]) : w.cell? ⟨b, 0, none⟩ = some (.int .i64 kind) ∧ w.cell? ⟨b, 1, none⟩ = some (.int .i64 bits) ∧ w.cell? ⟨b, 2, none⟩ = some (.int .i64 m) ∧ w.cell? ⟨b, 3, none⟩ = some (.int .i64 k) ∧ w.cell? ⟨b, 4, none⟩ = some (.int .i64 n) := ⟨h.cell 0, h.cell 1, h.cell 2, h.cell 3, h.cell 4⟩
theorem i3_facts {w : World} {b : Nat} {x y z : Int} (h : Has w b 3 #[.int .i64 x, .int .i64 y, .int .i64 z]) : w.cell? ⟨b, 0, none⟩ = some (.int .i64 x) ∧ w.cell? ⟨b, 1, none⟩ = some (.int .i64 y) ∧ w.cell? ⟨b, 2, none⟩ = some (.int .i64 z) := ⟨h.cell 0, h.cell 1, h.cell 2⟩
abbrev CAt (w : World) (b : Nat) (kind bits m k n : Int) : Prop := Has w b 23 #[.int .i64 kind, .int .i64 bits, .int .i64 m, .int .i64 k, .int .i64 n]

set_option maxRecDepth 100000 in
set_option maxHeartbeats 4000000 in
theorem checks_any (w : World) (c : Cl) (hM : Ml w) : Calls Tryd.prog 3 #[.agg c.cells] w fun e w' => e = .returned (.bool true) ∧ Only (fun _ => False) w w' := by
  have H1 := fun W => ssizes_any W c
  have H2 := fun W => rsizes_any W c
  have H3 := fun W => swidths_any W c
  have H4 := fun W => rwidths_any W c
  have H5 := fun W => stransfers_any W c
  have H6 := fun W => rtransfers_any W c
  have H7 := fun W => swords_any W c
  have H8 := fun W => rwords_any W c
  have H9 := fun W => scheck_any W c
  have H0 := fun W => srcheck_any W c
  generalize c.sizes = S at *
  generalize c.widths = T at *
  generalize c.transfers = U at *
  generalize c.words = V at *
  generalize c.check = K at *
  obtain ⟨s0, s1, s2⟩ := S
  obtain ⟨t0, t1, t2⟩ := T
  obtain ⟨u0, u1⟩ := U
  obtain ⟨kind, bits, m, k, n⟩ := c
  simp only [Cl.cells] at *
  have H1 := Lib.hid H1
  have H2 := Lib.hid H2
  have H3 := Lib.hid H3
  have H4 := Lib.hid H4
  have H5 := Lib.hid H5
  have H6 := Lib.hid H6
  have H7 := Lib.hid H7
  have H8 := Lib.hid H8
  have H9 := Lib.hid H9
  have H0 := Lib.hid H0
  have HM := Lib.hid hM
  clear hM
  go_enter Tryd.func3, Tryd.ntmps3
  go_wp2_with fail
  have c0 : CAt (w.alloc (.cells #[.int .i64 kind, .int .i64 bits, .int .i64 m, .int .i64 k, .int .i64 n] 23)) w.heap.size kind bits m k n := Has.new _ _ _
  have O0 : Only (fun _ => False) w (w.alloc (.cells #[.int .i64 kind, .int .i64 bits, .int .i64 m, .int .i64 k, .int .i64 n] 23)) := (Only.refl _ _).alloc _
  refine (H1.out _).mono ?_; rintro e w1 ⟨rfl, o1⟩
  have c1 : CAt w1 w.heap.size kind bits m k n := o1.has c0 (fun f => f)
  have O1 := O0.trans o1
  obtain ⟨f0, f1, f2, f3, f4⟩ := cl_facts c1
  go_wp2_with fail
  refine (H2.out _).mono ?_; rintro e w2 ⟨g, rfl, hg, o2⟩
  have c2 : CAt w2 w.heap.size kind bits m k n := o2.has c1 (fun f => f)
  have O2 := O1.trans o2
  clear f0 f1 f2 f3 f4
  obtain ⟨f0, f1, f2, f3, f4⟩ := cl_facts c2
  go_wp2_with fail
  refine (H3.out _).mono ?_; rintro e w3 ⟨rfl, o3⟩
  have c3 : CAt w3 w.heap.size kind bits m k n := o3.has c2 (fun f => f)
  have g3 := o3.has hg (fun f => f)
  have O3 := O2.trans o3
  clear f0 f1 f2 f3 f4
  obtain ⟨f0, f1, f2, f3, f4⟩ := cl_facts c3
  go_wp2_with fail
  refine (H4.out _).mono ?_; rintro e w4 ⟨h, rfl, hh, o4⟩
  have c4 : CAt w4 w.heap.size kind bits m k n := o4.has c3 (fun f => f)
  have g4 := o4.has g3 (fun f => f)
  have O4 := O3.trans o4
  clear f0 f1 f2 f3 f4
  obtain ⟨f0, f1, f2, f3, f4⟩ := cl_facts c4
  go_wp2_with fail
  refine (H5.out _).mono ?_; rintro e w5 ⟨rfl, o5⟩
  have c5 : CAt w5 w.heap.size kind bits m k n := o5.has c4 (fun f => f)
  have g5 := o5.has g4 (fun f => f)
  have h5 := o5.has hh (fun f => f)
  have O5 := O4.trans o5
  clear f0 f1 f2 f3 f4
  obtain ⟨f0, f1, f2, f3, f4⟩ := cl_facts c5
  go_wp2_with fail
  refine (H6.out _).mono ?_; rintro e w6 ⟨rfl, o6⟩
  have c6 : CAt w6 w.heap.size kind bits m k n := o6.has c5 (fun f => f)
  have g6 := o6.has g5 (fun f => f)
  have h6 := o6.has h5 (fun f => f)
  have O6 := O5.trans o6
  clear f0 f1 f2 f3 f4
  obtain ⟨f0, f1, f2, f3, f4⟩ := cl_facts c6
  clear f0 f1 f2 f3 f4
  have C7 : CAt w6.drew w.heap.size kind bits m k n := Has.drew c6
  have G7 : Has w6.drew g 3 #[.int .i64 s0, .int .i64 s1, .int .i64 s2] := Has.drew g6
  have H7' : Has w6.drew h 3 #[.int .i64 t0, .int .i64 t1, .int .i64 t2] := Has.drew h6
  have O7 : Only (fun _ => False) w w6.drew := O6.drew
  go_wp2_with fail
  simp only [List.append_eq, List.cons_append, List.nil_append]
  go_region_held3 (fun W => (W.cell? ⟨w.heap.size, 0, none⟩ = some (.int .i64 kind) ∧ W.cell? ⟨w.heap.size, 1, none⟩ = some (.int .i64 bits) ∧ W.cell? ⟨w.heap.size, 2, none⟩ = some (.int .i64 m) ∧ W.cell? ⟨w.heap.size, 3, none⟩ = some (.int .i64 k) ∧ W.cell? ⟨w.heap.size, 4, none⟩ = some (.int .i64 n)) ∧ (W.cell? ⟨g, 0, none⟩ = some (.int .i64 s0) ∧ W.cell? ⟨g, 1, none⟩ = some (.int .i64 s1) ∧ W.cell? ⟨g, 2, none⟩ = some (.int .i64 s2)) ∧ (W.cell? ⟨h, 0, none⟩ = some (.int .i64 t0) ∧ W.cell? ⟨h, 1, none⟩ = some (.int .i64 t1) ∧ W.cell? ⟨h, 2, none⟩ = some (.int .i64 t2)) ∧ Only (fun _ => False) w W) (exact ⟨cl_facts (by assumption), i3_facts (b := g) (by assumption), i3_facts (b := h) (by assumption), by assumption⟩) (first
    | (go_at_call 15; refine (H9.out _).mono ?_; rintro e w9 ⟨rfl, o9⟩; have C9 : CAt w9 w.heap.size kind bits m k n := Only.has o9 (by assumption) (fun f => f); have G9 : Has w9 g 3 #[.int .i64 s0, .int .i64 s1, .int .i64 s2] := Only.has o9 (by assumption) (fun f => f); have H9' : Has w9 h 3 #[.int .i64 t0, .int .i64 t1, .int .i64 t2] := Only.has o9 (by assumption) (fun f => f); have O9 : Only (fun _ => False) w w9 := Only.trans (by assumption) o9)
    | (go_at_call 16; refine (H0.out _).mono ?_; rintro e w9 ⟨rfl, o9⟩; have C9 : CAt w9 w.heap.size kind bits m k n := Only.has o9 (by assumption) (fun f => f); have G9 : Has w9 g 3 #[.int .i64 s0, .int .i64 s1, .int .i64 s2] := Only.has o9 (by assumption) (fun f => f); have H9' : Has w9 h 3 #[.int .i64 t0, .int .i64 t1, .int .i64 t2] := Only.has o9 (by assumption) (fun f => f); have O9 : Only (fun _ => False) w w9 := Only.trans (by assumption) o9)
    | (go_at_call 17; refine (H7.out _).mono ?_; rintro e w9 ⟨rfl, o9⟩; have C9 : CAt w9 w.heap.size kind bits m k n := Only.has o9 (by assumption) (fun f => f); have G9 : Has w9 g 3 #[.int .i64 s0, .int .i64 s1, .int .i64 s2] := Only.has o9 (by assumption) (fun f => f); have H9' : Has w9 h 3 #[.int .i64 t0, .int .i64 t1, .int .i64 t2] := Only.has o9 (by assumption) (fun f => f); have O9 : Only (fun _ => False) w w9 := Only.trans (by assumption) o9)
    | (go_at_call 18; refine (H8.out _).mono ?_; rintro e w9 ⟨rfl, o9⟩; have C9 : CAt w9 w.heap.size kind bits m k n := Only.has o9 (by assumption) (fun f => f); have G9 : Has w9 g 3 #[.int .i64 s0, .int .i64 s1, .int .i64 s2] := Only.has o9 (by assumption) (fun f => f); have H9' : Has w9 h 3 #[.int .i64 t0, .int .i64 t1, .int .i64 t2] := Only.has o9 (by assumption) (fun f => f); have O9 : Only (fun _ => False) w w9 := Only.trans (by assumption) o9)
    | (go_at_call 19; refine (awake09_any _ (HM.out.only (by assumption))).mono ?_; rintro e w9 ⟨rfl, o9⟩; have C9 : CAt w9 w.heap.size kind bits m k n := Only.has o9 (by assumption) (fun f => f); have G9 : Has w9 g 3 #[.int .i64 s0, .int .i64 s1, .int .i64 s2] := Only.has o9 (by assumption) (fun f => f); have H9' : Has w9 h 3 #[.int .i64 t0, .int .i64 t1, .int .i64 t2] := Only.has o9 (by assumption) (fun f => f); have O9 : Only (fun _ => False) w w9 := Only.trans (by assumption) o9))
  rename_i hS
  have O := hS.2.2.2
  clear hS
  go_wp2_with fail
  go_ret
  exact ⟨rfl, O⟩
end Go.Proofs.YtigcfgmblnbleaaDoor
