/- The law ShapeBack. -/
import Derived.Test.YtigcfgmblnbleaaDoorSb
import Derived.Test.YtigcfgmblnbleaaDoorSa
set_option linter.unusedSimpArgs false
set_option linter.unusedVariables false
namespace Go.Proofs.YtigcfgmblnbleaaDoor
open Go.RowKit

theorem nameF_size (c : Cl) : (nameF c).size ≤ 100 := by
  have h1 := dstr_size c.bits
  have h2 := dstr_size c.m
  have h3 := dstr_size c.k
  have h4 := dstr_size c.n
  unfold nameF
  split
  · decide
  split
  · decide
  split
  · rw [ByteArray.size_append, show (⟨#[115]⟩ : ByteArray).size = 1 from rfl]; omega
  split
  · rw [ByteArray.size_append, show (⟨#[100]⟩ : ByteArray).size = 1 from rfl]; omega
  · simp only [ByteArray.size_append]
    rw [show (⟨#[109]⟩ : ByteArray).size = 1 from rfl, show (⟨#[58]⟩ : ByteArray).size = 1 from rfl, show (⟨#[120]⟩ : ByteArray).size = 1 from rfl]
    omega

set_option maxRecDepth 100000 in
set_option maxHeartbeats 4000000 in
theorem back_law (w : World) (c : Cl) (s : ByteArray) (hM : Ml w) : Calls Tryd.prog 5 #[.agg c.cells, .string s] w fun e w' => e = .returned (.bool true) ∧ Only (fun _ => False) w w' := by
  have HM := Lib.hid hM
  clear hM
  by_cases hz : s.size ≤ 200
  · have H0 := fun W => sname_any W c
    have H1 := fun W (h : Ml W) => parse_any W (nameF c) h (by have := nameF_size c; omega)
    have H2 := fun W => srcheck_any W c
    have H3 := fun W (h : Ml W) => parse_any W s h (by omega)
    have H4 := fun W => sname_any W (parseF s).1
    have hz' : ¬ (200 : Int) < (s.size : Int) := by omega
    have hnp : (parseF s).2 = 0 → nameF (parseF s).1 = s := by rw [parse_eq]; exact name_parse s
    have hcc : c.check = 0 ∧ parseF (nameF c) = (c, 0) ∨ (c.check != 0) = true ∧ parseF (nameF c) = (zeroCl, 13) := by
      rw [parse_eq]
      by_cases hc : c.check = 0
      · exact .inl ⟨hc, parse_name c hc⟩
      · exact .inr ⟨by simpa using hc, parse_bad c hc⟩
    have hff : (parseF s).2 = 0 ∨ ((parseF s).2 != 0) = true := by
      by_cases h : (parseF s).2 = 0
      · exact .inl h
      · exact .inr (by simpa using h)
    generalize parseF s = R at *
    generalize nameF c = N at *
    obtain ⟨⟨a0, a1, a2, a3, a4⟩, x⟩ := R
    generalize hNR : nameF ⟨a0, a1, a2, a3, a4⟩ = NR at *
    simp only [hNR] at H4 hnp
    clear hNR hz
    replace H3 := Lib.hid H3
    replace H4 := Lib.hid H4
    replace H0 := Lib.hid H0
    simp only at hff hnp
    rcases hcc with ⟨hc, hp⟩ | ⟨hc, hp⟩
    · rw [hp] at H1
      clear hp
      generalize c.check = y at *
      obtain ⟨kind, bits, m, k, n⟩ := c
      simp only [Cl.cells, zeroCl] at *
      replace H1 := Lib.hid H1
      replace H2 := Lib.hid H2
      subst hc
      rcases hff with hf | hf
      all_goals
        try (subst hf; have hns := hnp rfl; subst hns)
        clear hnp
        go_enter Tryd.func5, Tryd.ntmps5
        have O0 : Only (fun _ => False) w (w.alloc (.cells #[.int .i64 kind, .int .i64 bits, .int .i64 m, .int .i64 k, .int .i64 n] 23)) := (Only.refl _ _).alloc _
        have C0 : CAt (w.alloc (.cells #[.int .i64 kind, .int .i64 bits, .int .i64 m, .int .i64 k, .int .i64 n] 23)) w.heap.size kind bits m k n := Has.new w _ _
        go_wp2_with fail
        refine (H0.out _).mono ?_; rintro e w1 ⟨rfl, o1⟩
        have C1 : CAt w1 w.heap.size kind bits m k n := o1.has C0 (fun f => f)
        have O1 := O0.trans o1
        clear C0 O0 o1
        go_wp2_with fail
        refine (H1.out _ (HM.out.only O1)).mono ?_; rintro e w2 ⟨rfl, o2⟩
        have C2 : CAt (w2.alloc (.cells #[.int .i64 kind, .int .i64 bits, .int .i64 m, .int .i64 k, .int .i64 n] 23)) w.heap.size kind bits m k n := (o2.has C1 (fun f => f)).alloc _
        have A2 : Has (w2.alloc (.cells #[.int .i64 kind, .int .i64 bits, .int .i64 m, .int .i64 k, .int .i64 n] 23)) w2.heap.size 23 #[.int .i64 kind, .int .i64 bits, .int .i64 m, .int .i64 k, .int .i64 n] := Has.new _ _ _
        have O2 := (O1.trans o2).alloc (.cells #[.int .i64 kind, .int .i64 bits, .int .i64 m, .int .i64 k, .int .i64 n] 23)
        clear C1 O1 o2
        obtain ⟨f0, f1, f2, f3, f4⟩ := cl_facts C2
        go_wp2_with fail
        refine (H2.out _).mono ?_; rintro e w3 ⟨rfl, o3⟩
        have O3 := O2.trans o3
        have C3 : CAt w3 w.heap.size kind bits m k n := o3.has C2 (fun f => f)
        have A3 := o3.has A2 (fun f => f)
        clear f0 f1 f2 f3 f4 O2 C2 A2 o3
        obtain ⟨f0, f1, f2, f3, f4⟩ := cl_facts C3
        obtain ⟨g0, g1, g2, g3, g4⟩ := cl_facts A3
        go_wp2_with fail
        refine (H2.out _).mono ?_; rintro e w4 ⟨rfl, o4⟩
        have O4 := O3.trans o4
        clear f0 f1 f2 f3 f4 g0 g1 g2 g3 g4 C3 A3 O3 o4
        go_wp2_with fail
        refine (H3.out _ (HM.out.only O4)).mono ?_; rintro e w5 ⟨rfl, o5⟩
        have O5 := (O4.trans o5).alloc (.cells #[.int .i64 a0, .int .i64 a1, .int .i64 a2, .int .i64 a3, .int .i64 a4] 23)
        have B5 : CAt (w5.alloc (.cells #[.int .i64 a0, .int .i64 a1, .int .i64 a2, .int .i64 a3, .int .i64 a4] 23)) w5.heap.size a0 a1 a2 a3 a4 := Has.new _ _ _
        obtain ⟨g0, g1, g2, g3, g4⟩ := cl_facts B5
        clear O4 o5
        have HO5 := Lib.hid O5
        clear O5
        first
          | (go_wp2_with fail
             refine (awake09_any _ (HM.out.only HO5.out)).mono ?_; rintro e w7 ⟨rfl, o7⟩
             go_wp2_with fail
             go_ret
             exact ⟨rfl, HO5.out.trans o7⟩)
          | (go_wp2_with fail
             refine (H4.out _).mono ?_; rintro e w6 ⟨rfl, o6⟩
             go_wp2_with fail
             refine (awake09_any _ (HM.out.only (HO5.out.trans o6))).mono ?_; rintro e w7 ⟨rfl, o7⟩
             go_wp2_with fail
             go_ret
             exact ⟨rfl, (HO5.out.trans o6).trans o7⟩)
    · rw [hp] at H1
      clear hp
      generalize c.check = y at *
      obtain ⟨kind, bits, m, k, n⟩ := c
      simp only [Cl.cells, zeroCl] at *
      replace H1 := Lib.hid H1
      replace H2 := Lib.hid H2
      have hc2 : (y == 0) = false := by simpa using hc
      rcases hff with hf | hf
      all_goals
        try (subst hf; have hns := hnp rfl; subst hns)
        clear hnp
        go_enter Tryd.func5, Tryd.ntmps5
        have O0 : Only (fun _ => False) w (w.alloc (.cells #[.int .i64 kind, .int .i64 bits, .int .i64 m, .int .i64 k, .int .i64 n] 23)) := (Only.refl _ _).alloc _
        have C0 : CAt (w.alloc (.cells #[.int .i64 kind, .int .i64 bits, .int .i64 m, .int .i64 k, .int .i64 n] 23)) w.heap.size kind bits m k n := Has.new w _ _
        go_wp2_with fail
        refine (H0.out _).mono ?_; rintro e w1 ⟨rfl, o1⟩
        have C1 : CAt w1 w.heap.size kind bits m k n := o1.has C0 (fun f => f)
        have O1 := O0.trans o1
        clear C0 O0 o1
        go_wp2_with fail
        refine (H1.out _ (HM.out.only O1)).mono ?_; rintro e w2 ⟨rfl, o2⟩
        have C2 : CAt (w2.alloc (.cells #[.int .i64 0, .int .i64 0, .int .i64 0, .int .i64 0, .int .i64 0] 23)) w.heap.size kind bits m k n := (o2.has C1 (fun f => f)).alloc _
        have A2 : Has (w2.alloc (.cells #[.int .i64 0, .int .i64 0, .int .i64 0, .int .i64 0, .int .i64 0] 23)) w2.heap.size 23 #[.int .i64 0, .int .i64 0, .int .i64 0, .int .i64 0, .int .i64 0] := Has.new _ _ _
        have O2 := (O1.trans o2).alloc (.cells #[.int .i64 0, .int .i64 0, .int .i64 0, .int .i64 0, .int .i64 0] 23)
        clear C1 O1 o2
        obtain ⟨f0, f1, f2, f3, f4⟩ := cl_facts C2
        go_wp2_with fail
        refine (H2.out _).mono ?_; rintro e w3 ⟨rfl, o3⟩
        have O3 := O2.trans o3
        have C3 : CAt w3 w.heap.size kind bits m k n := o3.has C2 (fun f => f)
        have A3 := o3.has A2 (fun f => f)
        clear f0 f1 f2 f3 f4 O2 C2 A2 o3
        obtain ⟨f0, f1, f2, f3, f4⟩ := cl_facts C3
        obtain ⟨g0, g1, g2, g3, g4⟩ := cl_facts A3
        go_wp2_with fail
        refine (H2.out _).mono ?_; rintro e w4 ⟨rfl, o4⟩
        have O4 := O3.trans o4
        clear f0 f1 f2 f3 f4 g0 g1 g2 g3 g4 C3 A3 O3 o4
        go_wp2_with fail
        refine (H3.out _ (HM.out.only O4)).mono ?_; rintro e w5 ⟨rfl, o5⟩
        have O5 := (O4.trans o5).alloc (.cells #[.int .i64 a0, .int .i64 a1, .int .i64 a2, .int .i64 a3, .int .i64 a4] 23)
        have B5 : CAt (w5.alloc (.cells #[.int .i64 a0, .int .i64 a1, .int .i64 a2, .int .i64 a3, .int .i64 a4] 23)) w5.heap.size a0 a1 a2 a3 a4 := Has.new _ _ _
        obtain ⟨g0, g1, g2, g3, g4⟩ := cl_facts B5
        clear O4 o5
        have HO5 := Lib.hid O5
        clear O5
        first
          | (go_wp2_with fail
             refine (awake09_any _ (HM.out.only HO5.out)).mono ?_; rintro e w7 ⟨rfl, o7⟩
             go_wp2_with fail
             go_ret
             exact ⟨rfl, HO5.out.trans o7⟩)
          | (go_wp2_with fail
             refine (H4.out _).mono ?_; rintro e w6 ⟨rfl, o6⟩
             go_wp2_with fail
             refine (awake09_any _ (HM.out.only (HO5.out.trans o6))).mono ?_; rintro e w7 ⟨rfl, o7⟩
             go_wp2_with fail
             go_ret
             exact ⟨rfl, (HO5.out.trans o6).trans o7⟩)
  · have hz' : (200 : Int) < (s.size : Int) := by omega
    obtain ⟨kind, bits, m, k, n⟩ := c
    simp only [Cl.cells] at *
    have O0 : Only (fun _ => False) w (w.alloc (.cells #[.int .i64 kind, .int .i64 bits, .int .i64 m, .int .i64 k, .int .i64 n] 23)) := (Only.refl _ _).alloc _
    clear hz
    go_enter Tryd.func5, Tryd.ntmps5
    go_wp2_with fail
    refine (awake09_any _ (HM.out.only O0)).mono ?_; rintro e w7 ⟨rfl, o7⟩
    go_wp2_with fail
    go_ret
    exact ⟨rfl, O0.trans o7⟩
end Go.Proofs.YtigcfgmblnbleaaDoor
