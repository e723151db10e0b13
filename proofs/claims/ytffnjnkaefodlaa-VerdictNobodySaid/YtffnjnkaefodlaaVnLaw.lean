/- The law trefoillaw31.VerdictNobody holds: for every input it returns true, and its argument reads afterwards as before. No condition on the input. -/
import Derived.Test.YtffnjnkaefodlaaRows
import Derived.Test.YtffnjnkaefodlaaVn
import Derived.Test.YtffnjnkaefodlaaArg
import Derived.ProofKit
import Derived.OpenShut
import Derived.ShutString
import Derived.ChangeOld
import Derived.SizedLaws
import Derived.Carry
set_option linter.unusedVariables false
set_option linter.unusedSimpArgs false
namespace Go.Proofs.Ytffnjnkaefodlaa.verdictNobody
open Go.ChangeShapes Go.WideShapes Go.ChangeAt Go.RowKit
open Go.ChangeMaps (open_string shut_string)

theorem own : ownKnob Try.prog.godebug = none := by kernel_rfl
theorem laidOut : laidOutB Try.prog = true := by kernel_rfl

theorem act_of {H : Type} {enc : TypeId × Value → H} {w : World} {r : Reach} {b0 : Nat} {v : Value} {d : DataW H} {p : List MemPlace}
    (hv : Value.okWide Try.prog w r b0 28 v) (h : DataW.Trod enc Try.prog w 0 (fun _ => true) true 28 v d p) : ∃ x0 x1 x2 x3 : Int, v = .agg #[.int .i64 x0, .int .i64 x1, .int .u32 x2, .int .i64 x3] := by
  obtain ⟨cs, rfl, hn, hf⟩ := open_agg Try.underlying28 (by kernel_rfl) (by kernel_rfl) hv h
  have hn : cs.length = 4 := hn
  match cs, hn with
  | [v0, v1, v2, v3], _ =>
    obtain ⟨n0, y0, t0⟩ := hf 0 _ v0 rfl rfl
    obtain ⟨n1, y1, t1⟩ := hf 1 _ v1 rfl rfl
    obtain ⟨n2, y2, t2⟩ := hf 2 _ v2 rfl rfl
    obtain ⟨n3, y3, t3⟩ := hf 3 _ v3 rfl rfl
    obtain ⟨x0, e0, _, _⟩ := DataW.trod_int Try.underlying3 t0
    obtain ⟨x1, e1, _, _⟩ := DataW.trod_int Try.underlying3 t1
    obtain ⟨x2, e2, _, _⟩ := DataW.trod_int Try.underlying26 t2
    obtain ⟨x3, e3, _, _⟩ := DataW.trod_int Try.underlying3 t3
    simp only [List.cons.injEq, and_true] at e0 e1 e2 e3
    subst e0 e1 e2 e3
    exact ⟨x0, x1, x2, x3, rfl⟩

set_option maxRecDepth 100000 in
theorem lifted (os : Os) (started : os.Started) (H : Type) (enc : TypeId × Value → H) :
    ReturnsInHanded {} Try.checked os 5 .any (Rows.verdictNobodySpec.pre6 enc Try.prog Try.f5 Rows.verdictNobodyRow.domain false) (Rows.verdictNobodySpec.post enc Try.prog Try.f5 false true false false) := by
  refine returnsInHanded_of_change (C := Try.checked) own started (by kernel_rfl) Try.func5
    (ChangeSpec.witness6 (enc := enc) (C := Try.checked) false ⟨#[], #[.agg #[.int .i64 0, .int .i64 0, .int .u32 0, .int .i64 0]], []⟩ 8 (by kernel_rfl) (by kernel_rfl) (by kernel_rfl) (by kernel_rfl)) ?_
  intro W base args ds gs before hval0 hW hcnd _
  have hval : ∀ (j : Nat) t v, Try.f5.params[j]? = some t → args[j]? = some v → Value.okWide Try.prog W .any base t v := hval0
  have hW' := hW
  obtain ⟨p, q, hA0, hV, rfl, hfz, hnd⟩ := hW
  have hA : DataW.TrodAll enc Try.prog W 0 (fun _ => true) true Try.f5.params.toList args.toList ds p := hA0
  rw [Try.params5] at hA hval
  obtain ⟨v0, vs0, d0, ds0, p0, q0, hargs, rfl, rfl, h0, r0⟩ := trodAll_cons hA
  obtain ⟨rfl, rfl, rfl⟩ := trodAll_nil r0
  obtain rfl : args = #[v0] := by cases args; simp_all
  obtain ⟨rfl, rfl⟩ := trodVars_none hV
  have k0 := h0
  have lt0 : ∀ x ∈ p0, x.block < W.heap.size := by obtain ⟨m, hm⟩ := k0; exact DataW.trod_lt m _ _ _ hm
  obtain ⟨z0, z1, z2, z3, rfl⟩ := act_of (hval 0 28 v0 rfl rfl) h0
  clear hA0 hval0
  refine (nobody_any W z0 z1 z2 z3).mono fun e W' ⟨he, ho⟩ => ?_
  have bel : Below W.heap.size W W' := ho.below (Nat.le_refl _) fun _ _ f => f
  subst he
  exact ⟨_, rfl, _, _, _, [], _, [], hW', trodAll_mk1 (shut_bool Try.underlying4 _), (trodAll_cons_mk (Below.trod laidOut (by kernel_rfl) (of_decide_eq_true (by kernel_rfl)) k0 bel lt0) trodAll_mk0), rfl, bel.frame _, fun h => by cases h⟩

theorem over : Rows.verdictNobodyRow.holds Try.pinned (OpenSpec.ofChange Rows.verdictNobodySpec) :=
  OpenClaim.holds_of_wide 5 Try.f5 rfl rfl rfl rfl rfl rfl rfl ⟨rfl, rfl, rfl, rfl, rfl⟩ rfl rfl rfl rfl rfl (by kernel_rfl) Try.func5 (by kernel_rfl)
    (of_decide_eq_true (by kernel_rfl)) (by unfold Func.isWrapper; first | (rw [if_pos (by decide +kernel)]; kernel_rfl) | (rw [if_neg (by decide +kernel)]; exact ⟨rfl, rfl⟩))
    (fun os started H enc _ => lifted os started H enc)
theorem proved : Rows.VerdictNobodySaid := over
#print axioms proved
end Go.Proofs.Ytffnjnkaefodlaa.verdictNobody
namespace Go.Proofs.Ytffnjnkaefodlaa
/-- The row, under a short name, for the claim. -/
theorem verdictNobody_holds : Rows.VerdictNobodySaid := verdictNobody.proved
end Go.Proofs.Ytffnjnkaefodlaa
