/- A frame as an argument. -/
import Derived.Test.YtnaacpopaccjpaaDoorArg
import Derived.Test.YtnaacpopaccjpaaDoorFrC
import Derived.OpenShut
set_option linter.unusedSimpArgs false
set_option linter.unusedVariables false
namespace Go.Proofs.YtnaacpopaccjpaaDoor
open Go.RowKit Go.ChangeShapes Go.WideShapes
theorem wf_u32 {x : Int} (h : (Lit.int .u32 x).wf = true) : 0 ≤ x ∧ x ≤ 4294967295 := by
  have := bounds_u32 h
  omega
set_option maxRecDepth 100000 in
theorem frame_of {H : Type} {enc : TypeId × Value → H} {w : World} {r : Reach} {b0 : Nat} {v : Value} {d : DataW H} {p : List MemPlace}
    (hv : Value.okWide Tryd.prog w r b0 24 v) (h : DataW.Trod enc Tryd.prog w 0 (fun _ => true) true 24 v d p) : ∃ f : Fr, v = .agg f.cells ∧ f.ok ∧ f.body.size ≤ 9223372036854775807 := by
  obtain ⟨cs, rfl, hn, hf⟩ := open_agg Tryd.underlying24 (by kernel_rfl) (by kernel_rfl) hv h
  have hn : cs.length = 6 := hn
  match cs, hn with
  | [v0, v1, v2, v3, v4, v5], _ =>
    obtain ⟨n0, y0, t0⟩ := hf 0 _ v0 rfl rfl
    obtain ⟨n1, y1, t1⟩ := hf 1 _ v1 rfl rfl
    obtain ⟨n2, y2, t2⟩ := hf 2 _ v2 rfl rfl
    obtain ⟨n3, y3, t3⟩ := hf 3 _ v3 rfl rfl
    obtain ⟨n4, y4, t4⟩ := hf 4 _ v4 rfl rfl
    obtain ⟨n5, y5, t5⟩ := hf 5 _ v5 rfl rfl
    obtain ⟨x0, e0, _, _⟩ := DataW.trod_int Tryd.underlying3 t0
    obtain ⟨x1, e1, _, w1⟩ := DataW.trod_int Tryd.underlying22 t1
    obtain ⟨x2, e2, _, w2⟩ := DataW.trod_int Tryd.underlying22 t2
    obtain ⟨x3, e3, _, w3⟩ := DataW.trod_int Tryd.underlying22 t3
    obtain ⟨x4, e4, _, w4⟩ := DataW.trod_int Tryd.underlying22 t4
    obtain ⟨x5, e5, _, w5⟩ := DataW.trod_string Tryd.underlying9 t5
    simp only [List.cons.injEq, and_true] at e0 e1 e2 e3 e4 e5
    subst e0 e1 e2 e3 e4 e5
    exact ⟨⟨x0, x1, x2, x3, x4, x5⟩, rfl, ⟨wf_u32 w1, wf_u32 w2, wf_u32 w3, wf_u32 w4⟩, by unfold maxLen at w5; exact w5⟩
end Go.Proofs.YtnaacpopaccjpaaDoor
