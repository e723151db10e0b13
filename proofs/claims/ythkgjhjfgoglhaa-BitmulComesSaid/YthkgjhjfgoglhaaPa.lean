/- Layer 24: a part as an argument. -/
import Derived.Test.YthkgjhjfgoglhaaBm
import Derived.Test.YthkgjhjfgoglhaaArg
import Derived.Deep.Grids
import Derived.ChangeSlices
import Derived.OpenShut
set_option linter.unusedSimpArgs false
set_option linter.unusedVariables false
namespace Go.Proofs.Ythkgjhjfgoglhaa
open Go.RowKit Go.ChangeShapes Go.WideShapes Go.Deep

theorem bools_of {H : Type} {enc : TypeId × Value → H} {w : World} {n : Nat} {v : Value} {y : DataW H × List MemPlace} (h : DataW.trod enc Try.prog w 0 (fun _ => true) true n 22 [v] = some y) :
    ∃ l : List Bool, Reads w v (bcellsB l) := by
  rcases open_bools Try.underlying22 Try.underlying4 (by kernel_rfl) h with ⟨h0, _⟩ | ⟨a, len, cap, B, h0, _, hl, hm, _, hc⟩
  · simp only [List.cons.injEq, and_true] at h0
    subst h0
    exact ⟨[], none, 0, rfl, .inl rfl⟩
  · simp only [List.cons.injEq, and_true] at h0
    subst h0
    refine ⟨(List.range len).map B, some a, cap, by simp [bcellsB], .inr ⟨a, rfl, fun k x hx => ?_⟩⟩
    have hk : k < len := by
      have := (List.getElem?_eq_some_iff.1 hx).1
      simpa [bcellsB] using this
    rw [hc k (by omega)]
    simpa [bcellsB, hk] using hx
set_option maxRecDepth 100000 in
theorem part_of {H : Type} {enc : TypeId × Value → H} {w : World} {r : Reach} {b0 : Nat} {v : Value} {d : DataW H} {p : List MemPlace}
    (hv : Value.okWide Try.prog w r b0 24 v) (h : DataW.Trod enc Try.prog w 0 (fun _ => true) true 24 v d p) :
    ∃ q : Pt, RefP w v q := by
  obtain ⟨cs, rfl, hn, hf⟩ := open_agg Try.underlying24 (by kernel_rfl) (by kernel_rfl) hv h
  have hn : cs.length = 3 := hn
  match cs, hn with
  | [v0, v1, v2], _ =>
    obtain ⟨n0, y0, t0⟩ := hf 0 _ v0 rfl rfl
    obtain ⟨n1, y1, t1⟩ := hf 1 _ v1 rfl rfl
    obtain ⟨n2, y2, t2⟩ := hf 2 _ v2 rfl rfl
    obtain ⟨l0, s0⟩ := bools_of t0
    obtain ⟨l1, s1⟩ := bools_of t1
    obtain ⟨l2, s2⟩ := bools_of t2
    exact ⟨⟨l0, l1, l2⟩, v0, v1, v2, rfl, s0, s1, s2⟩
end Go.Proofs.Ythkgjhjfgoglhaa
