/- The law ShapeFits; a share as an argument. -/
import Derived.Test.YtigcfgmblnbleaaDoorSfr
import Derived.Test.YtigcfgmblnbleaaDoorArg
import Derived.ChangeSlices
import Derived.OpenShut
set_option linter.unusedSimpArgs false
set_option linter.unusedVariables false
namespace Go.Proofs.YtigcfgmblnbleaaDoor
open Go.RowKit Go.ChangeShapes Go.WideShapes

theorem wf_u64 {x : Int} (h : (Lit.int .u64 x).wf = true) : 0 ≤ x ∧ x ≤ 18446744073709551615 := by
  have := bounds_u64 h
  omega
theorem slu_of {H : Type} {enc : TypeId × Value → H} {w : World} {n : Nat} {v : Value} {y : DataW H × List MemPlace} (h : DataW.trod enc Tryd.prog w 0 (fun _ => true) true n 41 [v] = some y) :
    ∃ l, SlU w v l ∧ (∀ x ∈ l, 0 ≤ x ∧ x ≤ 18446744073709551615) ∧ l.length ≤ 9223372036854775807 := by
  rcases open_ints Tryd.underlying41 Tryd.underlying79 (by kernel_rfl) h with ⟨h0, _⟩ | ⟨a, len, cap, zs, h0, _, hl, hm, hzl, _, hc, hw⟩
  · simp only [List.cons.injEq, and_true] at h0
    subst h0
    exact ⟨[], ⟨none, 0, rfl, fun i h => absurd h (Nat.not_lt_zero i)⟩, (fun x h => by cases h), Nat.zero_le _⟩
  · simp only [List.cons.injEq, and_true] at h0
    subst h0
    simp only [if_true] at hzl
    have htl : (zs.take len).length = len := by rw [List.length_take]; omega
    refine ⟨zs.take len, ⟨some a, cap, by rw [htl], fun i h => ⟨a, rfl, ?_⟩⟩, fun x hx => wf_u64 (hw x (List.mem_of_mem_take hx)), by rw [htl]; unfold maxLen at hm; omega⟩
    have hi : i < zs.length := by rw [htl] at h; omega
    rw [hc i hi, List.getElem_take, List.getD_eq_getElem?_getD, List.getElem?_eq_getElem hi]
    rfl
set_option maxRecDepth 100000 in
theorem share_of {H : Type} {enc : TypeId × Value → H} {w : World} {r : Reach} {b0 : Nat} {v : Value} {d : DataW H} {p : List MemPlace}
    (hv : Value.okWide Tryd.prog w r b0 43 v) (h : DataW.Trod enc Tryd.prog w 0 (fun _ => true) true 43 v d p) :
    ∃ (va vb vc : Value) (s : Sh), v = .agg #[va, vb, vc] ∧ (SlU w va s.a ∧ SlU w vb s.b ∧ SlU w vc s.c) ∧ ((∀ x ∈ s.a, 0 ≤ x ∧ x ≤ 18446744073709551615) ∧ (∀ x ∈ s.b, 0 ≤ x ∧ x ≤ 18446744073709551615) ∧ (∀ x ∈ s.c, 0 ≤ x ∧ x ≤ 18446744073709551615)) ∧ (s.a.length ≤ 9223372036854775807 ∧ s.b.length ≤ 9223372036854775807 ∧ s.c.length ≤ 9223372036854775807) := by
  obtain ⟨cs, rfl, hn, hf⟩ := open_agg Tryd.underlying43 (by kernel_rfl) (by kernel_rfl) hv h
  have hn : cs.length = 3 := hn
  match cs, hn with
  | [v0, v1, v2], _ =>
    obtain ⟨n0, y0, t0⟩ := hf 0 _ v0 rfl rfl
    obtain ⟨n1, y1, t1⟩ := hf 1 _ v1 rfl rfl
    obtain ⟨n2, y2, t2⟩ := hf 2 _ v2 rfl rfl
    obtain ⟨l0, s0, x0, m0⟩ := slu_of t0
    obtain ⟨l1, s1, x1, m1⟩ := slu_of t1
    obtain ⟨l2, s2, x2, m2⟩ := slu_of t2
    exact ⟨v0, v1, v2, ⟨l0, l1, l2⟩, rfl, ⟨s0, s1, s2⟩, ⟨x0, x1, x2⟩, ⟨m0, m1, m2⟩⟩

set_option maxRecDepth 100000 in
set_option maxHeartbeats 2000000 in
theorem fits_law (w : World) (c : Cl) (va vb vc : Value) (s : Sh) (hM : Ml w) (hs : SlU w va s.a ∧ SlU w vb s.b ∧ SlU w vc s.c)
    (hx : (∀ x ∈ s.a, 0 ≤ x ∧ x ≤ 18446744073709551615) ∧ (∀ x ∈ s.b, 0 ≤ x ∧ x ≤ 18446744073709551615) ∧ (∀ x ∈ s.c, 0 ≤ x ∧ x ≤ 18446744073709551615))
    (hl : s.a.length ≤ 9223372036854775807 ∧ s.b.length ≤ 9223372036854775807 ∧ s.c.length ≤ 9223372036854775807) :
    Calls Tryd.prog 6 #[.agg c.cells, .agg #[va, vb, vc]] w fun e w' => e = .returned (.bool true) ∧ Only (fun _ => False) w w' := by
  have HM := Lib.hid hM
  clear hM
  obtain ⟨h1, h2, h3⟩ := hs
  obtain ⟨l1, l2, l3⟩ := hl
  have hcase : 60 < s.a.length ∨ s.a.length ≤ 60 ∧ 60 < s.b.length ∨ s.a.length ≤ 60 ∧ s.b.length ≤ 60 ∧ 60 < s.c.length ∨ s.a.length ≤ 60 ∧ s.b.length ≤ 60 ∧ s.c.length ≤ 60 := by omega
  by_cases hshort : s.a.length ≤ 60 ∧ s.b.length ≤ 60 ∧ s.c.length ≤ 60
  · have hS : ShAt w va vb vc s := ⟨h1, h2, h3, hx.1, hx.2.1, hx.2.2, by omega, by omega, by omega⟩
    have H1 : ∀ W, Only (fun _ => False) w W → _ := fun W o => sfits_any W c va vb vc s (hS.only o)
    have H2 : ∀ W, Only (fun _ => False) w W → _ := fun W o => rfits_any W c va vb vc s (hS.only o)
    generalize c.fits s = r at *
    obtain ⟨Aa, ca, rfl, -⟩ := h1
    obtain ⟨Ab, cb, rfl, -⟩ := h2
    obtain ⟨Ac, cc, rfl, -⟩ := h3
    obtain ⟨q1, q2, q3⟩ := hshort
    clear hS hx hcase l1 l2 l3
    have q1 : (s.a.length : Int) ≤ 60 := by omega
    have q2 : (s.b.length : Int) ≤ 60 := by omega
    have q3 : (s.c.length : Int) ≤ 60 := by omega
    generalize s.a.length = na at *
    generalize s.b.length = nb at *
    generalize s.c.length = nc at *
    obtain ⟨kind, bits, m, k, n⟩ := c
    simp only [Cl.cells] at *
    have H1 := Lib.hid H1
    have H2 := Lib.hid H2
    go_enter Tryd.func6, Tryd.ntmps6
    have C0 : CAt ((w.alloc (.cells #[.int .i64 kind, .int .i64 bits, .int .i64 m, .int .i64 k, .int .i64 n] 23)).alloc (.cells #[.slice Aa na ca, .slice Ab nb cb, .slice Ac nc cc] 43)).drew w.heap.size kind bits m k n := ((Has.new w _ _).alloc _).drew
    have S0 := Has.new (w.alloc (.cells #[.int .i64 kind, .int .i64 bits, .int .i64 m, .int .i64 k, .int .i64 n] 23)) 43 #[.slice Aa na ca, .slice Ab nb cb, .slice Ac nc cc]
    rw [show (w.alloc (.cells #[.int .i64 kind, .int .i64 bits, .int .i64 m, .int .i64 k, .int .i64 n] 23)).heap.size = w.heap.size + 1 by simp] at S0
    have S0 := S0.drew
    have O0 : Only (fun _ => False) w ((w.alloc (.cells #[.int .i64 kind, .int .i64 bits, .int .i64 m, .int .i64 k, .int .i64 n] 23)).alloc (.cells #[.slice Aa na ca, .slice Ab nb cb, .slice Ac nc cc] 43)).drew := (((Only.refl _ _).alloc _).alloc _).drew
    go_wp2_with fail
    go_region_held3 (fun W => (W.cell? ⟨w.heap.size, 0, none⟩ = some (.int .i64 kind) ∧ W.cell? ⟨w.heap.size, 1, none⟩ = some (.int .i64 bits) ∧ W.cell? ⟨w.heap.size, 2, none⟩ = some (.int .i64 m) ∧ W.cell? ⟨w.heap.size, 3, none⟩ = some (.int .i64 k) ∧ W.cell? ⟨w.heap.size, 4, none⟩ = some (.int .i64 n)) ∧ (W.cell? ⟨w.heap.size + 1, 0, none⟩ = some (.slice Aa na ca) ∧ W.cell? ⟨w.heap.size + 1, 1, none⟩ = some (.slice Ab nb cb) ∧ W.cell? ⟨w.heap.size + 1, 2, none⟩ = some (.slice Ac nc cc)) ∧ Only (fun _ => False) w W) (exact ⟨cl_facts (by assumption), s3_facts (by assumption), by assumption⟩) (first
      | (go_at_call 24; refine (H1.out _ (by assumption)).mono ?_; rintro e w5 ⟨rfl, o5⟩; have C5 : CAt w5 w.heap.size kind bits m k n := Only.has o5 (by assumption) (fun f => f); have S5 : Has w5 (w.heap.size + 1) 43 #[.slice Aa na ca, .slice Ab nb cb, .slice Ac nc cc] := Only.has o5 (by assumption) (fun f => f); have O5 : Only (fun _ => False) w w5 := Only.trans (by assumption) o5)
      | (go_at_call 25; refine (H2.out _ (by assumption)).mono ?_; rintro e w6 ⟨rfl, o6⟩; have C6 : CAt w6 w.heap.size kind bits m k n := Only.has o6 (by assumption) (fun f => f); have S6 : Has w6 (w.heap.size + 1) 43 #[.slice Aa na ca, .slice Ab nb cb, .slice Ac nc cc] := Only.has o6 (by assumption) (fun f => f); have O6 : Only (fun _ => False) w w6 := Only.trans (by assumption) o6)
      | (go_at_call 19; refine (awake09_any _ (HM.out.only (by assumption))).mono ?_; rintro e w7 ⟨rfl, o7⟩; have C7 : CAt w7 w.heap.size kind bits m k n := Only.has o7 (by assumption) (fun f => f); have S7 : Has w7 (w.heap.size + 1) 43 #[.slice Aa na ca, .slice Ab nb cb, .slice Ac nc cc] := Only.has o7 (by assumption) (fun f => f); have O7 : Only (fun _ => False) w w7 := Only.trans (by assumption) o7))
    rename_i hS
    have O := hS.2.2
    clear hS
    go_wp2_with fail
    go_ret
    exact ⟨rfl, O⟩
  · obtain ⟨Aa, ca, rfl, -⟩ := h1
    obtain ⟨Ab, cb, rfl, -⟩ := h2
    obtain ⟨Ac, cc, rfl, -⟩ := h3
    clear hx
    generalize s.a.length = na at *
    generalize s.b.length = nb at *
    generalize s.c.length = nc at *
    obtain ⟨kind, bits, m, k, n⟩ := c
    simp only [Cl.cells] at *
    have O0 : Only (fun _ => False) w ((w.alloc (.cells #[.int .i64 kind, .int .i64 bits, .int .i64 m, .int .i64 k, .int .i64 n] 23)).alloc (.cells #[.slice Aa na ca, .slice Ab nb cb, .slice Ac nc cc] 43)) := ((Only.refl _ _).alloc _).alloc _
    rcases hcase with h | ⟨h1, h⟩ | ⟨h1, h2, h⟩ | h
    · have h : (60 : Int) < (na : Int) := by omega
      clear hshort
      go_enter Tryd.func6, Tryd.ntmps6
      go_wp2_with fail
      refine (awake09_any _ (HM.out.only O0)).mono ?_; rintro e w7 ⟨rfl, o7⟩
      go_wp2_with fail
      go_ret
      exact ⟨rfl, O0.trans o7⟩
    · have h : (60 : Int) < (nb : Int) := by omega
      have h1 : ¬ (60 : Int) < (na : Int) := by omega
      clear hshort
      go_enter Tryd.func6, Tryd.ntmps6
      go_wp2_with fail
      refine (awake09_any _ (HM.out.only O0)).mono ?_; rintro e w7 ⟨rfl, o7⟩
      go_wp2_with fail
      go_ret
      exact ⟨rfl, O0.trans o7⟩
    · have h : (60 : Int) < (nc : Int) := by omega
      have h1 : ¬ (60 : Int) < (na : Int) := by omega
      have h2 : ¬ (60 : Int) < (nb : Int) := by omega
      clear hshort
      go_enter Tryd.func6, Tryd.ntmps6
      go_wp2_with fail
      refine (awake09_any _ (HM.out.only O0)).mono ?_; rintro e w7 ⟨rfl, o7⟩
      go_wp2_with fail
      go_ret
      exact ⟨rfl, O0.trans o7⟩
    · exact absurd h hshort
end Go.Proofs.YtigcfgmblnbleaaDoor
