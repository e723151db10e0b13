/- A class as an argument. -/
import Derived.Test.YtigcfgmblnbleaaDoorArg
import Derived.Test.YtigcfgmblnbleaaDoorSc
import Derived.OpenShut
set_option linter.unusedSimpArgs false
set_option linter.unusedVariables false
namespace Go.Proofs.YtigcfgmblnbleaaDoor
open Go.RowKit Go.ChangeShapes Go.WideShapes
set_option maxRecDepth 100000 in
theorem class_of {H : Type} {enc : TypeId × Value → H} {w : World} {r : Reach} {b0 : Nat} {v : Value} {d : DataW H} {p : List MemPlace}
    (hv : Value.okWide Tryd.prog w r b0 23 v) (h : DataW.Trod enc Tryd.prog w 0 (fun _ => true) true 23 v d p) : ∃ c : Cl, v = .agg c.cells := by
  obtain ⟨cs, rfl, hn, hf⟩ := open_agg Tryd.underlying23 (by kernel_rfl) (by kernel_rfl) hv h
  have hn : cs.length = 5 := hn
  match cs, hn with
  | [v0, v1, v2, v3, v4], _ =>
    obtain ⟨n0, y0, t0⟩ := hf 0 _ v0 rfl rfl
    obtain ⟨n1, y1, t1⟩ := hf 1 _ v1 rfl rfl
    obtain ⟨n2, y2, t2⟩ := hf 2 _ v2 rfl rfl
    obtain ⟨n3, y3, t3⟩ := hf 3 _ v3 rfl rfl
    obtain ⟨n4, y4, t4⟩ := hf 4 _ v4 rfl rfl
    obtain ⟨x0, e0, _, _⟩ := DataW.trod_int Tryd.underlying3 t0
    obtain ⟨x1, e1, _, _⟩ := DataW.trod_int Tryd.underlying3 t1
    obtain ⟨x2, e2, _, _⟩ := DataW.trod_int Tryd.underlying3 t2
    obtain ⟨x3, e3, _, _⟩ := DataW.trod_int Tryd.underlying3 t3
    obtain ⟨x4, e4, _, _⟩ := DataW.trod_int Tryd.underlying3 t4
    simp only [List.cons.injEq, and_true] at e0 e1 e2 e3 e4
    subst e0 e1 e2 e3 e4
    exact ⟨⟨x0, x1, x2, x3, x4⟩, rfl⟩
end Go.Proofs.YtigcfgmblnbleaaDoor
