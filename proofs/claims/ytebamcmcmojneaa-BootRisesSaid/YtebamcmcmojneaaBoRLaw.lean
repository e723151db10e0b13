/- The law trefoillaw34.BootRises holds: for every input it returns true, and its argument reads afterwards as before. No condition on the input. -/
import Derived.Test.YtebamcmcmojneaaRows
import Derived.Test.YtebamcmcmojneaaBoR
import Derived.Test.YtebamcmcmojneaaArg
import Derived.ProofKit
import Derived.OpenShut
import Derived.ShutString
import Derived.ChangeOld
import Derived.SizedLaws
import Derived.Carry
set_option linter.unusedVariables false
set_option linter.unusedSimpArgs false
namespace Go.Proofs.Ytebamcmcmojneaa.bootRises
open Go.ChangeShapes Go.WideShapes Go.ChangeAt Go.RowKit
open Go.ChangeMaps (open_string shut_string)

theorem own : ownKnob Try.prog.godebug = none := by kernel_rfl
theorem laidOut : laidOutB Try.prog = true := by kernel_rfl

theorem acts_of {H : Type} {enc : TypeId × Value → H} {w : World} {A : Option Addr} {len cap : Nat} {d : DataW H} {p : List MemPlace}
    (h : DataW.Trod enc Try.prog w 0 (fun _ => true) true 22 (.slice A len cap) d p) : ∃ l : List Act, l.length = len ∧ len ≤ 9223372036854775807 ∧ Acts w A l := by
  obtain ⟨h1, h2, h3⟩ := open_rows Try.underlying22 Try.underlying31 (by kernel_rfl) (by kernel_rfl) h
  obtain ⟨l, hl, hp⟩ := listOf (p := ActAt w A) len fun i hi => by
    obtain ⟨ad, hA, cs, hcl, hc, hf⟩ := h3 i hi
    have hn : cs.length = 2 := hcl
    match cs, hn with
    | [v0, v1], _ =>
      obtain ⟨n0, y0, t0⟩ := hf 0 _ v0 rfl rfl
      obtain ⟨n1, y1, t1⟩ := hf 1 _ v1 rfl rfl
      obtain ⟨x0, e0, _⟩ := DataW.trod_bool Try.underlying4 t0
      obtain ⟨x1, e1, _, _⟩ := DataW.trod_int Try.underlying3 t1
      simp only [List.cons.injEq, and_true] at e0 e1
      subst e0 e1
      have c0 := hc 0 _ rfl
      have b0 := World.block_lt_of_cell? w _ c0
      rw [block_add] at b0
      exact ⟨⟨x0, x1⟩, ad, hA, b0, c0, row_cell (by decide) (hc 1 _ rfl)⟩
  refine ⟨l, hl, ?_, fun i hi => hp i (by omega)⟩
  unfold maxLen at h2
  omega

set_option maxRecDepth 100000 in
theorem lifted (os : Os) (started : os.Started) (H : Type) (enc : TypeId × Value → H) :
    ReturnsInHanded {} Try.checked os 3 .any (Rows.bootRisesSpec.pre6 enc Try.prog Try.f3 Rows.bootRisesRow.domain false) (Rows.bootRisesSpec.post enc Try.prog Try.f3 false true false false) := by
  refine returnsInHanded_of_change (C := Try.checked) own started (by kernel_rfl) Try.func3
    (ChangeSpec.witness6 (enc := enc) (C := Try.checked) false ⟨#[], #[.slice none 0 0], []⟩ 8 (by kernel_rfl) (by kernel_rfl) (by kernel_rfl) (by kernel_rfl)) ?_
  intro W base args ds gs before hval0 hW hcnd _
  have hval : ∀ (j : Nat) t v, Try.f3.params[j]? = some t → args[j]? = some v → Value.okWide Try.prog W .any base t v := hval0
  have hW' := hW
  obtain ⟨p, q, hA0, hV, rfl, hfz, hnd⟩ := hW
  have hA : DataW.TrodAll enc Try.prog W 0 (fun _ => true) true Try.f3.params.toList args.toList ds p := hA0
  rw [Try.params3] at hA hval
  obtain ⟨v0, vs0, d0, ds0, p0, q0, hargs, rfl, rfl, h0, r0⟩ := trodAll_cons hA
  obtain ⟨rfl, rfl, rfl⟩ := trodAll_nil r0
  obtain rfl : args = #[v0] := by cases args; simp_all
  obtain ⟨rfl, rfl⟩ := trodVars_none hV
  have k0 := h0
  have lt0 : ∀ x ∈ p0, x.block < W.heap.size := by obtain ⟨m, hm⟩ := k0; exact DataW.trod_lt m _ _ _ hm
  obtain ⟨A0, n0, c0, rfl⟩ := okWide_slice Try.underlying22 (hval 0 22 v0 rfl rfl)
  obtain ⟨l, rfl, hl, ha⟩ := acts_of h0
  clear hA0 hval0
  refine (rises_any W A0 l c0 hl ha).mono fun e W' ⟨he, ho⟩ => ?_
  have bel : Below W.heap.size W W' := ho.below (Nat.le_refl _) fun _ _ f => f
  subst he
  exact ⟨_, rfl, _, _, _, [], _, [], hW', trodAll_mk1 (shut_bool Try.underlying4 _), (trodAll_cons_mk (Below.trod laidOut (by kernel_rfl) (of_decide_eq_true (by kernel_rfl)) k0 bel lt0) trodAll_mk0), rfl, bel.frame _, fun h => by cases h⟩

theorem over : Rows.bootRisesRow.holds Try.pinned (OpenSpec.ofChange Rows.bootRisesSpec) :=
  OpenClaim.holds_of_wide 3 Try.f3 rfl rfl rfl rfl rfl rfl rfl ⟨rfl, rfl, rfl, rfl, rfl⟩ rfl rfl rfl rfl rfl (by kernel_rfl) Try.func3 (by kernel_rfl)
    (of_decide_eq_true (by kernel_rfl)) (by unfold Func.isWrapper; first | (rw [if_pos (by decide +kernel)]; kernel_rfl) | (rw [if_neg (by decide +kernel)]; exact ⟨rfl, rfl⟩))
    (fun os started H enc _ => lifted os started H enc)
theorem proved : Rows.BootRisesSaid := over
#print axioms proved
end Go.Proofs.Ytebamcmcmojneaa.bootRises
namespace Go.Proofs.Ytebamcmcmojneaa
/-- The row, under a short name, for the claim. -/
theorem bootRises_holds : Rows.BootRisesSaid := bootRises.proved
end Go.Proofs.Ytebamcmcmojneaa
