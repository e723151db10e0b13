/- The law ShapeFits; a share as an argument. -/
import Derived.Test.YtbajgbjpaliecaaSfr
import Derived.Test.YtbajgbjpaliecaaArg
import Derived.ChangeSlices
import Derived.OpenShut
set_option linter.unusedSimpArgs false
set_option linter.unusedVariables false
namespace Go.Proofs.Ytbajgbjpaliecaa
open Go.RowKit Go.ChangeShapes Go.WideShapes

theorem wf_u64 {x : Int} (h : (Lit.int .u64 x).wf = true) : 0 ≤ x ∧ x ≤ 18446744073709551615 := by
  have := bounds_u64 h
  omega
theorem slu_of {H : Type} {enc : TypeId × Value → H} {w : World} {n : Nat} {v : Value} {y : DataW H × List MemPlace} (h : DataW.trod enc Try.prog w 0 (fun _ => true) true n 26 [v] = some y) :
    ∃ l, SlU w v l ∧ (∀ x ∈ l, 0 ≤ x ∧ x ≤ 18446744073709551615) ∧ l.length ≤ 9223372036854775807 := by
  rcases open_ints Try.underlying26 Try.underlying23 (by kernel_rfl) h with ⟨h0, _⟩ | ⟨a, len, cap, zs, h0, _, hl, hm, hzl, _, hc, hw⟩
  · simp only [List.cons.injEq, and_true] at h0
    subst h0
    exact ⟨[], ⟨none, 0, rfl, fun i h => absurd h (Nat.not_lt_zero i)⟩, (fun x h => by cases h), Nat.zero_le _⟩
  · simp only [List.cons.injEq, and_true] at h0
    subst h0
    simp only [if_true] at hzl
    have htl : (zs.take len).length = len := by rw [List.length_take]; omega
    refine ⟨zs.take len, ⟨some a, cap, by rw [htl], fun i h => ⟨a, rfl, ?_⟩⟩, fun x hx => wf_u64 (hw x (List.mem_of_mem_take hx)), by rw [htl]; unfold maxLen at hm; omega⟩
    have hi : i < zs.length := by rw [htl] at h; omega
    rw [hc i hi, List.getElem_take, List.getD_eq_getElem?_getD, List.getElem?_eq_getElem hi]
    rfl
set_option maxRecDepth 100000 in
theorem share_of {H : Type} {enc : TypeId × Value → H} {w : World} {r : Reach} {b0 : Nat} {v : Value} {d : DataW H} {p : List MemPlace}
    (hv : Value.okWide Try.prog w r b0 51 v) (h : DataW.Trod enc Try.prog w 0 (fun _ => true) true 51 v d p) :
    ∃ (va vb vc : Value) (s : Sh), v = .agg #[va, vb, vc] ∧ (SlU w va s.a ∧ SlU w vb s.b ∧ SlU w vc s.c) ∧ ((∀ x ∈ s.a, 0 ≤ x ∧ x ≤ 18446744073709551615) ∧ (∀ x ∈ s.b, 0 ≤ x ∧ x ≤ 18446744073709551615) ∧ (∀ x ∈ s.c, 0 ≤ x ∧ x ≤ 18446744073709551615)) ∧ (s.a.length ≤ 9223372036854775807 ∧ s.b.length ≤ 9223372036854775807 ∧ s.c.length ≤ 9223372036854775807) := by
  obtain ⟨cs, rfl, hn, hf⟩ := open_agg Try.underlying51 (by kernel_rfl) (by kernel_rfl) hv h
  have hn : cs.length = 3 := hn
  match cs, hn with
  | [v0, v1, v2], _ =>
    obtain ⟨n0, y0, t0⟩ := hf 0 _ v0 rfl rfl
    obtain ⟨n1, y1, t1⟩ := hf 1 _ v1 rfl rfl
    obtain ⟨n2, y2, t2⟩ := hf 2 _ v2 rfl rfl
    obtain ⟨l0, s0, x0, m0⟩ := slu_of t0
    obtain ⟨l1, s1, x1, m1⟩ := slu_of t1
    obtain ⟨l2, s2, x2, m2⟩ := slu_of t2
    exact ⟨v0, v1, v2, ⟨l0, l1, l2⟩, rfl, ⟨s0, s1, s2⟩, ⟨x0, x1, x2⟩, ⟨m0, m1, m2⟩⟩

end Go.Proofs.Ytbajgbjpaliecaa
