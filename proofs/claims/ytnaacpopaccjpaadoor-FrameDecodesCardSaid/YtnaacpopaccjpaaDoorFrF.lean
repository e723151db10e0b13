/- Chapter 11: For, the example, and the law FrameFor walked. -/
import Derived.Test.YtnaacpopaccjpaaDoorFrC
import Derived.Deep.RegionHeld3
set_option linter.unusedSimpArgs false
set_option linter.unusedVariables false
namespace Go.Proofs.YtnaacpopaccjpaaDoor
open Go.RowKit Go.Lib

theorem ex_bytes : strOfNums (Fr.bytes ⟨3, 1, 2, 0, 5, ⟨#[]⟩⟩) = ⟨#[3, 0, 0, 0, 1, 0, 0, 0, 2, 0, 0, 0, 0, 0, 0, 0, 5]⟩ := by decide +kernel
theorem ex_check : Fr.check ⟨3, 1, 2, 0, 5, ⟨#[]⟩⟩ = 0 := by decide +kernel

theorem awake11_any (w : World) : Calls Tryd.prog 5 #[] w fun e w' => e = .returned (.bool true) ∧ Only (fun _ => False) w w' := by
  go_enter Tryd.func5, Tryd.ntmps5
  go_wp2_with fail
  refine (encode_ok _ ⟨3, 1, 2, 0, 5, ⟨#[]⟩⟩ ⟨by decide, by decide, by decide, by decide⟩ ex_check).mono ?_
  rw [ex_bytes]
  rintro e w1 ⟨rfl, o1⟩
  go_wp2_with fail
  go_ret
  exact ⟨rfl, o1⟩


theorem of_any (w : World) (f : Fr) : Calls Tryd.prog 7 #[.agg f.cells] w fun e w' => e = .returned (.agg f.cells) ∧ Only (fun _ => False) w w' := by
  simp only [Fr.cells]
  go_enter Tryd.func7, Tryd.ntmps7
  go_wp2
  refine bodyPost_ret (v := .agg f.cells) ?_ rfl ⟨rfl, ((Only.refl _ _).alloc _).alloc _⟩
  simp [results, Tryd.results7, go_sem, Fr.cells]

theorem held6 {w X W : World} {b : Nat} {t : TypeId} {x0 x1 x2 x3 x4 x5 : Value} (o : Only (fun _ => False) X W)
    (h : (X.cell? ⟨b, 0, none⟩ = some x0 ∧ X.cell? ⟨b, 1, none⟩ = some x1 ∧ X.cell? ⟨b, 2, none⟩ = some x2 ∧ X.cell? ⟨b, 3, none⟩ = some x3 ∧ X.cell? ⟨b, 4, none⟩ = some x4 ∧ X.cell? ⟨b, 5, none⟩ = some x5) ∧ Has X b t #[x0, x1, x2, x3, x4, x5] ∧ Only (fun _ => False) w X) :
    (W.cell? ⟨b, 0, none⟩ = some x0 ∧ W.cell? ⟨b, 1, none⟩ = some x1 ∧ W.cell? ⟨b, 2, none⟩ = some x2 ∧ W.cell? ⟨b, 3, none⟩ = some x3 ∧ W.cell? ⟨b, 4, none⟩ = some x4 ∧ W.cell? ⟨b, 5, none⟩ = some x5) ∧ Has W b t #[x0, x1, x2, x3, x4, x5] ∧ Only (fun _ => False) w W := by
  have hh := o.has h.2.1 (fun f => f)
  exact ⟨⟨hh.cell 0, hh.cell 1, hh.cell 2, hh.cell 3, hh.cell 4, hh.cell 5⟩, hh, h.2.2.trans o⟩
theorem held6_new (w : World) (t : TypeId) (x0 x1 x2 x3 x4 x5 : Value) :
    (((w.alloc (.cells #[x0, x1, x2, x3, x4, x5] t)).drew.cell? ⟨w.heap.size, 0, none⟩ = some x0 ∧ (w.alloc (.cells #[x0, x1, x2, x3, x4, x5] t)).drew.cell? ⟨w.heap.size, 1, none⟩ = some x1 ∧ (w.alloc (.cells #[x0, x1, x2, x3, x4, x5] t)).drew.cell? ⟨w.heap.size, 2, none⟩ = some x2 ∧ (w.alloc (.cells #[x0, x1, x2, x3, x4, x5] t)).drew.cell? ⟨w.heap.size, 3, none⟩ = some x3 ∧ (w.alloc (.cells #[x0, x1, x2, x3, x4, x5] t)).drew.cell? ⟨w.heap.size, 4, none⟩ = some x4 ∧ (w.alloc (.cells #[x0, x1, x2, x3, x4, x5] t)).drew.cell? ⟨w.heap.size, 5, none⟩ = some x5) ∧ Has (w.alloc (.cells #[x0, x1, x2, x3, x4, x5] t)).drew w.heap.size t #[x0, x1, x2, x3, x4, x5] ∧ Only (fun _ => False) w (w.alloc (.cells #[x0, x1, x2, x3, x4, x5] t)).drew) := by
  have hh := (Has.new w t #[x0, x1, x2, x3, x4, x5]).drew
  exact ⟨⟨hh.cell 0, hh.cell 1, hh.cell 2, hh.cell 3, hh.cell 4, hh.cell 5⟩, hh, ((Only.refl _ _).alloc _).drew⟩

end Go.Proofs.YtnaacpopaccjpaaDoor
