/- The reference's Put. -/
import Derived.Test.YtbajgbjpaliecaaDoorSp
import Derived.Laws.BytesArg
set_option linter.unusedSimpArgs false
set_option linter.unusedVariables false
namespace Go.Proofs.YtbajgbjpaliecaaDoor
open Go.RowKit

theorem conv_five (W : World) (g : Nat) (a b c d e : Int) (h : Has W g 5 #[.int .u8 a, .int .u8 b, .int .u8 c, .int .u8 d, .int .u8 e]) : (convert 52 9 (.slice (some ⟨g, 0, none⟩) 5 5)).run Tryd.prog W = .ok (.string (strOfNums [a, b, c, d, e])) W := by
  refine run_convert_bytes_arg W 52 5 Tryd.underlying52 Tryd.underlying5 g 0 5 5 [a, b, c, d, e] rfl (fun i hi => ?_) 9 Tryd.underlying9
  have hi0 : i = 0 ∨ i = 1 ∨ i = 2 ∨ i = 3 ∨ i = 4 := by omega
  rcases hi0 with rfl | rfl | rfl | rfl | rfl <;> exact h.cell _
set_option maxRecDepth 100000 in
set_option maxHeartbeats 2000000 in
theorem rput_any (w : World) (c : Cl) (hc : ∀ x ∈ c.nums, 0 ≤ x ∧ x ≤ 255) : Calls Tryd.prog 20 #[.agg c.cells] w fun e w' => e = .returned (.string (strOfNums c.nums)) ∧ Only (fun _ => False) w w' := by
  obtain ⟨kind, bits, m, k, n⟩ := c
  simp only [Cl.nums, List.mem_cons, List.not_mem_nil, or_false, forall_eq_or_imp, forall_eq] at hc ⊢
  obtain ⟨⟨a0, a1⟩, ⟨b0, b1⟩, ⟨c0, c1⟩, ⟨d0, d1⟩, ⟨e0, e1⟩⟩ := hc
  have w0 : IntKind.u8.wrap kind = kind := by rw [IntKind.wrap_u8]; omega
  have w1 : IntKind.u8.wrap bits = bits := by rw [IntKind.wrap_u8]; omega
  have w2 : IntKind.u8.wrap m = m := by rw [IntKind.wrap_u8]; omega
  have w3 : IntKind.u8.wrap k = k := by rw [IntKind.wrap_u8]; omega
  have w4 : IntKind.u8.wrap n = n := by rw [IntKind.wrap_u8]; omega
  have hb : Has ((w.alloc (.cells #[.int .i64 kind, .int .i64 bits, .int .i64 m, .int .i64 k, .int .i64 n] 25)).alloc (.cells #[.int .u8 kind, .int .u8 bits, .int .u8 m, .int .u8 k, .int .u8 n] 5)) (w.heap.size + 1) 5 #[.int .u8 kind, .int .u8 bits, .int .u8 m, .int .u8 k, .int .u8 n] := by
    have h := Has.new (w.alloc (.cells #[.int .i64 kind, .int .i64 bits, .int .i64 m, .int .i64 k, .int .i64 n] 25)) 5 #[.int .u8 kind, .int .u8 bits, .int .u8 m, .int .u8 k, .int .u8 n]
    rwa [show (w.alloc (.cells #[.int .i64 kind, .int .i64 bits, .int .i64 m, .int .i64 k, .int .i64 n] 25)).heap.size = w.heap.size + 1 by simp] at h
  have hcv := conv_five _ _ _ _ _ _ _ hb
  clear hb
  simp only [Cl.cells]
  go_enter Tryd.func20, Tryd.ntmps20
  go_wp2_with fail
  go_ret
  exact ⟨rfl, ((Only.refl _ _).alloc _).alloc _⟩
end Go.Proofs.YtbajgbjpaliecaaDoor
