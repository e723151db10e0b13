/- Chapter 11: For, the example, and the law FrameFor walked. -/
import Derived.Test.YtnaacpopaccjpaaFrC
import Derived.Deep.RegionHeld3
set_option linter.unusedSimpArgs false
set_option linter.unusedVariables false
namespace Go.Proofs.Ytnaacpopaccjpaa
open Go.RowKit Go.Lib

theorem ex_bytes : strOfNums (Fr.bytes ⟨3, 1, 2, 0, 5, ⟨#[]⟩⟩) = ⟨#[3, 0, 0, 0, 1, 0, 0, 0, 2, 0, 0, 0, 0, 0, 0, 0, 5]⟩ := by decide +kernel
theorem ex_check : Fr.check ⟨3, 1, 2, 0, 5, ⟨#[]⟩⟩ = 0 := by decide +kernel

theorem awake11_any (w : World) : Calls Try.prog 8 #[] w fun e w' => e = .returned (.bool true) ∧ Only (fun _ => False) w w' := by
  go_enter Try.func8, Try.ntmps8
  go_wp2_with fail
  refine (encode_ok _ ⟨3, 1, 2, 0, 5, ⟨#[]⟩⟩ ⟨by decide, by decide, by decide, by decide⟩ ex_check).mono ?_
  rw [ex_bytes]
  rintro e w1 ⟨rfl, o1⟩
  go_wp2_with fail
  go_ret
  exact ⟨rfl, o1⟩

def Fr.for_ (f : Fr) (own peer : Int) : Int := if f.own < peer then 21 else if f.kind ≠ 1 ∧ f.peer ≠ own then 21 else 0

theorem for_any (w : World) (f : Fr) (own peer : Int) : Calls Try.prog 5 #[.agg f.cells, .int .u32 own, .int .u32 peer] w fun e w' => e = .returned (.int .i64 (f.for_ own peer)) ∧ Only (fun _ => False) w w' := by
  simp only [Fr.cells]
  go_enter Try.func5, Try.ntmps5
  go_wp2
  all_goals
    go_ret
    refine ⟨?_, (Only.refl _ _).alloc _⟩
    simp_all [Fr.for_]
theorem rfor_any (w : World) (f : Fr) (own peer : Int) : Calls Try.prog 7 #[.agg f.cells, .int .u32 own, .int .u32 peer] w fun e w' => e = .returned (.int .i64 (f.for_ own peer)) ∧ Only (fun _ => False) w w' := by
  simp only [Fr.cells]
  go_enter Try.func7, Try.ntmps7
  go_wp2
  all_goals
    go_ret
    refine ⟨?_, (Only.refl _ _).alloc _⟩
    simp_all [Fr.for_]
    try omega
theorem of_any (w : World) (f : Fr) : Calls Try.prog 6 #[.agg f.cells] w fun e w' => e = .returned (.agg f.cells) ∧ Only (fun _ => False) w w' := by
  simp only [Fr.cells]
  go_enter Try.func6, Try.ntmps6
  go_wp2
  refine bodyPost_ret (v := .agg f.cells) ?_ rfl ⟨rfl, ((Only.refl _ _).alloc _).alloc _⟩
  simp [results, Try.results6, go_sem, Fr.cells]

theorem held6 {w X W : World} {b : Nat} {t : TypeId} {x0 x1 x2 x3 x4 x5 : Value} (o : Only (fun _ => False) X W)
    (h : (X.cell? ⟨b, 0, none⟩ = some x0 ∧ X.cell? ⟨b, 1, none⟩ = some x1 ∧ X.cell? ⟨b, 2, none⟩ = some x2 ∧ X.cell? ⟨b, 3, none⟩ = some x3 ∧ X.cell? ⟨b, 4, none⟩ = some x4 ∧ X.cell? ⟨b, 5, none⟩ = some x5) ∧ Has X b t #[x0, x1, x2, x3, x4, x5] ∧ Only (fun _ => False) w X) :
    (W.cell? ⟨b, 0, none⟩ = some x0 ∧ W.cell? ⟨b, 1, none⟩ = some x1 ∧ W.cell? ⟨b, 2, none⟩ = some x2 ∧ W.cell? ⟨b, 3, none⟩ = some x3 ∧ W.cell? ⟨b, 4, none⟩ = some x4 ∧ W.cell? ⟨b, 5, none⟩ = some x5) ∧ Has W b t #[x0, x1, x2, x3, x4, x5] ∧ Only (fun _ => False) w W := by
  have hh := o.has h.2.1 (fun f => f)
  exact ⟨⟨hh.cell 0, hh.cell 1, hh.cell 2, hh.cell 3, hh.cell 4, hh.cell 5⟩, hh, h.2.2.trans o⟩
theorem held6_new (w : World) (t : TypeId) (x0 x1 x2 x3 x4 x5 : Value) :
    (((w.alloc (.cells #[x0, x1, x2, x3, x4, x5] t)).drew.cell? ⟨w.heap.size, 0, none⟩ = some x0 ∧ (w.alloc (.cells #[x0, x1, x2, x3, x4, x5] t)).drew.cell? ⟨w.heap.size, 1, none⟩ = some x1 ∧ (w.alloc (.cells #[x0, x1, x2, x3, x4, x5] t)).drew.cell? ⟨w.heap.size, 2, none⟩ = some x2 ∧ (w.alloc (.cells #[x0, x1, x2, x3, x4, x5] t)).drew.cell? ⟨w.heap.size, 3, none⟩ = some x3 ∧ (w.alloc (.cells #[x0, x1, x2, x3, x4, x5] t)).drew.cell? ⟨w.heap.size, 4, none⟩ = some x4 ∧ (w.alloc (.cells #[x0, x1, x2, x3, x4, x5] t)).drew.cell? ⟨w.heap.size, 5, none⟩ = some x5) ∧ Has (w.alloc (.cells #[x0, x1, x2, x3, x4, x5] t)).drew w.heap.size t #[x0, x1, x2, x3, x4, x5] ∧ Only (fun _ => False) w (w.alloc (.cells #[x0, x1, x2, x3, x4, x5] t)).drew) := by
  have hh := (Has.new w t #[x0, x1, x2, x3, x4, x5]).drew
  exact ⟨⟨hh.cell 0, hh.cell 1, hh.cell 2, hh.cell 3, hh.cell 4, hh.cell 5⟩, hh, ((Only.refl _ _).alloc _).drew⟩

set_option maxHeartbeats 1000000 in
theorem framefor_any (w : World) (f : Fr) (own peer : Int) : Calls Try.prog 3 #[.agg f.cells, .int .u32 own, .int .u32 peer] w fun e w' => e = .returned (.bool true) ∧ Only (fun _ => False) w w' := by
  have hof := Lib.hid (fun W => of_any W f)
  have hfor := Lib.hid (fun W => for_any W f own peer)
  have hrf := Lib.hid (fun W => rfor_any W f own peer)
  obtain ⟨kind, fo, pe, se, ac, body⟩ := f
  simp only [Fr.cells] at *
  go_enter Try.func3, Try.ntmps3
  go_wp2_with fail
  go_region_held3 (fun W => (W.cell? ⟨w.heap.size, 0, none⟩ = some (.int .i64 kind) ∧ W.cell? ⟨w.heap.size, 1, none⟩ = some (.int .u32 fo) ∧ W.cell? ⟨w.heap.size, 2, none⟩ = some (.int .u32 pe) ∧ W.cell? ⟨w.heap.size, 3, none⟩ = some (.int .u32 se) ∧ W.cell? ⟨w.heap.size, 4, none⟩ = some (.int .u32 ac) ∧ W.cell? ⟨w.heap.size, 5, none⟩ = some (.string body)) ∧ Has W w.heap.size 24 #[.int .i64 kind, .int .u32 fo, .int .u32 pe, .int .u32 se, .int .u32 ac, .string body] ∧ Only (fun _ => False) w W) (first | exact held6_new _ _ _ _ _ _ _ _ | exact held6 (by assumption) (held6_new _ _ _ _ _ _ _ _) | exact held6 (by assumption) (by assumption) | (trace_state; fail)) (first | (go_at_call 6; refine (hof.out _).mono ?_; rintro e w1 ⟨rfl, o1⟩) | (go_at_call 5; refine (hfor.out _).mono ?_; rintro e w1 ⟨rfl, o1⟩) | (go_at_call 7; refine (hrf.out _).mono ?_; rintro e w1 ⟨rfl, o1⟩) | (go_at_call 8; refine (awake11_any _).mono ?_; rintro e w1 ⟨rfl, o1⟩))
  go_wp2_with fail
  go_ret
  exact ⟨rfl, And.right (And.right (by assumption))⟩
end Go.Proofs.Ytnaacpopaccjpaa
