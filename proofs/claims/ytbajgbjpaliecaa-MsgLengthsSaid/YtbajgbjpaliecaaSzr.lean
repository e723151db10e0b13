/- The reference of layer 9: Sizes, Widths, Transfers, Words. -/
import Derived.Test.YtbajgbjpaliecaaSz
set_option linter.unusedSimpArgs false
set_option linter.unusedVariables false
namespace Go.Proofs.Ytbajgbjpaliecaa
open Go.RowKit

set_option maxRecDepth 100000 in
set_option maxHeartbeats 4000000 in
theorem rsizes_any (w : World) (c : Cl) : Calls Try.prog 41 #[.agg c.cells] w fun e w' => ∃ g, e = .returned (.slice (some ⟨g, 0, none⟩) 3 3) ∧ Has w' g 3 #[.int .i64 c.sizes.1, .int .i64 c.sizes.2.1, .int .i64 c.sizes.2.2] ∧ Only (fun _ => False) w w' := by
  have HC := fun W => srcheck_any W c
  obtain ⟨kind, bits, m, k, n⟩ := c
  by_cases hc : Cl.check ⟨kind, bits, m, k, n⟩ = 0
  · rcases Cl.good hc with ⟨rfl, hm, hk2, hn, hb⟩ | ⟨rfl | rfl, rfl, rfl, rfl, hb⟩ | ⟨rfl, rfl, rfl, rfl, rfl⟩
    · have hv : Cl.sizes ⟨2, bits, m, k, n⟩ = ((m * k), (k * n), (m * n)) := by simp [Cl.sizes, Cl.sizes, hc]
      rw [hc] at HC
      rw [hv]
      have p1 := prod6 hm hk2
      have p2 := prod6 hk2 hn
      have p3 := prod6 hm hn
      have p4 := prod36 p1 hb
      have q1 : IntKind.i64.wrap (m * k) = m * k := by rw [IntKind.wrap_i64]; omega
      have q2 : IntKind.i64.wrap (k * n) = k * n := by rw [IntKind.wrap_i64]; omega
      have q3 : IntKind.i64.wrap (m * n) = m * n := by rw [IntKind.wrap_i64]; omega
      have q4 : IntKind.i64.wrap (m * k * bits) = m * k * bits := by rw [IntKind.wrap_i64]; omega
      have q5 : IntKind.i64.wrap (m * k + k * n) = m * k + k * n := by rw [IntKind.wrap_i64]; omega
      have hbc := Lib.hid hc
      obtain ⟨p11, p12⟩ := p1
      obtain ⟨p21, p22⟩ := p2
      obtain ⟨p31, p32⟩ := p3
      obtain ⟨p41, p42⟩ := p4
      have HC := Lib.hid HC
      clear hv hc
      simp only [Cl.cells] at *
      go_enter Try.func41, Try.ntmps41
      go_wp2_with fail
      refine (HC.out _).mono ?_; rintro e w1 ⟨rfl, o1⟩
      have hf := o1.has (Has.new w 25 #[.int .i64 2, .int .i64 bits, .int .i64 m, .int .i64 k, .int .i64 n]) (fun f => f)
      obtain ⟨f0, f1, f2, f3, f4, ff⟩ := hf.facts5
      clear ff
      go_wp2_with fail
      go_ret
      exact ⟨_, rfl, Has.new _ _ _, (((Only.refl _ _).alloc _).trans o1).alloc _⟩
    · have hv : Cl.sizes ⟨1, bits, 0, 0, 0⟩ = (1, 1, 1) := by simp [Cl.sizes, Cl.sizes, hc]
      rw [hc] at HC
      rw [hv]
      have HC := Lib.hid HC
      clear hv hc
      simp only [Cl.cells] at *
      go_enter Try.func41, Try.ntmps41
      go_wp2_with fail
      refine (HC.out _).mono ?_; rintro e w1 ⟨rfl, o1⟩
      have hf := o1.has (Has.new w 25 #[.int .i64 1, .int .i64 bits, .int .i64 0, .int .i64 0, .int .i64 0]) (fun f => f)
      obtain ⟨f0, f1, f2, f3, f4, ff⟩ := hf.facts5
      clear ff
      go_wp2_with fail
      go_ret
      exact ⟨_, rfl, Has.new _ _ _, (((Only.refl _ _).alloc _).trans o1).alloc _⟩
    · have hv : Cl.sizes ⟨4, bits, 0, 0, 0⟩ = (1, 1, 0) := by simp [Cl.sizes, Cl.sizes, hc]
      rw [hc] at HC
      rw [hv]
      have HC := Lib.hid HC
      clear hv hc
      simp only [Cl.cells] at *
      go_enter Try.func41, Try.ntmps41
      go_wp2_with fail
      refine (HC.out _).mono ?_; rintro e w1 ⟨rfl, o1⟩
      have hf := o1.has (Has.new w 25 #[.int .i64 4, .int .i64 bits, .int .i64 0, .int .i64 0, .int .i64 0]) (fun f => f)
      obtain ⟨f0, f1, f2, f3, f4, ff⟩ := hf.facts5
      clear ff
      go_wp2_with fail
      go_ret
      exact ⟨_, rfl, Has.new _ _ _, (((Only.refl _ _).alloc _).trans o1).alloc _⟩
    · have hv : Cl.sizes ⟨3, 1, 0, 0, 0⟩ = (1, 1, 1) := by simp [Cl.sizes, Cl.sizes, hc]
      rw [hc] at HC
      rw [hv]
      have HC := Lib.hid HC
      clear hv hc
      simp only [Cl.cells] at *
      go_enter Try.func41, Try.ntmps41
      go_wp2_with fail
      refine (HC.out _).mono ?_; rintro e w1 ⟨rfl, o1⟩
      have hf := o1.has (Has.new w 25 #[.int .i64 3, .int .i64 1, .int .i64 0, .int .i64 0, .int .i64 0]) (fun f => f)
      obtain ⟨f0, f1, f2, f3, f4, ff⟩ := hf.facts5
      clear ff
      go_wp2_with fail
      go_ret
      exact ⟨_, rfl, Has.new _ _ _, (((Only.refl _ _).alloc _).trans o1).alloc _⟩
  · have hv : Cl.sizes ⟨kind, bits, m, k, n⟩ = (0, 0, 0) := by simp [Cl.sizes, Cl.sizes, hc]
    have h1 : (Cl.check ⟨kind, bits, m, k, n⟩ != 0) = true := by simpa using hc
    generalize Cl.check ⟨kind, bits, m, k, n⟩ = x at HC h1
    rw [hv]
    have HC := Lib.hid HC
    clear hv hc
    simp only [Cl.cells] at *
    go_enter Try.func41, Try.ntmps41
    go_wp2_with fail
    refine (HC.out _).mono ?_; rintro e w1 ⟨rfl, o1⟩
    have hf := o1.has (Has.new w 25 #[.int .i64 kind, .int .i64 bits, .int .i64 m, .int .i64 k, .int .i64 n]) (fun f => f)
    obtain ⟨f0, f1, f2, f3, f4, ff⟩ := hf.facts5
    clear ff
    go_wp2_with fail
    go_ret
    exact ⟨_, rfl, Has.new _ _ _, (((Only.refl _ _).alloc _).trans o1).alloc _⟩

set_option maxRecDepth 100000 in
set_option maxHeartbeats 4000000 in
theorem rwidths_any (w : World) (c : Cl) : Calls Try.prog 42 #[.agg c.cells] w fun e w' => ∃ g, e = .returned (.slice (some ⟨g, 0, none⟩) 3 3) ∧ Has w' g 3 #[.int .i64 c.widths.1, .int .i64 c.widths.2.1, .int .i64 c.widths.2.2] ∧ Only (fun _ => False) w w' := by
  have HC := fun W => srcheck_any W c
  obtain ⟨kind, bits, m, k, n⟩ := c
  by_cases hc : Cl.check ⟨kind, bits, m, k, n⟩ = 0
  · rcases Cl.good hc with ⟨rfl, hm, hk2, hn, hb⟩ | ⟨rfl | rfl, rfl, rfl, rfl, hb⟩ | ⟨rfl, rfl, rfl, rfl, rfl⟩
    · have hv : Cl.widths ⟨2, bits, m, k, n⟩ = (bits, bits, bits) := by simp [Cl.widths, Cl.sizes, hc]
      rw [hc] at HC
      rw [hv]
      have p1 := prod6 hm hk2
      have p2 := prod6 hk2 hn
      have p3 := prod6 hm hn
      have p4 := prod36 p1 hb
      have q1 : IntKind.i64.wrap (m * k) = m * k := by rw [IntKind.wrap_i64]; omega
      have q2 : IntKind.i64.wrap (k * n) = k * n := by rw [IntKind.wrap_i64]; omega
      have q3 : IntKind.i64.wrap (m * n) = m * n := by rw [IntKind.wrap_i64]; omega
      have q4 : IntKind.i64.wrap (m * k * bits) = m * k * bits := by rw [IntKind.wrap_i64]; omega
      have q5 : IntKind.i64.wrap (m * k + k * n) = m * k + k * n := by rw [IntKind.wrap_i64]; omega
      have hbc := Lib.hid hc
      obtain ⟨p11, p12⟩ := p1
      obtain ⟨p21, p22⟩ := p2
      obtain ⟨p31, p32⟩ := p3
      obtain ⟨p41, p42⟩ := p4
      have HC := Lib.hid HC
      clear hv hc
      simp only [Cl.cells] at *
      go_enter Try.func42, Try.ntmps42
      go_wp2_with fail
      refine (HC.out _).mono ?_; rintro e w1 ⟨rfl, o1⟩
      have hf := o1.has (Has.new w 25 #[.int .i64 2, .int .i64 bits, .int .i64 m, .int .i64 k, .int .i64 n]) (fun f => f)
      obtain ⟨f0, f1, f2, f3, f4, ff⟩ := hf.facts5
      clear ff
      go_wp2_with fail
      go_ret
      exact ⟨_, rfl, Has.new _ _ _, (((Only.refl _ _).alloc _).trans o1).alloc _⟩
    · have hv : Cl.widths ⟨1, bits, 0, 0, 0⟩ = (bits, bits, bits) := by simp [Cl.widths, Cl.sizes, hc]
      rw [hc] at HC
      rw [hv]
      have HC := Lib.hid HC
      clear hv hc
      simp only [Cl.cells] at *
      go_enter Try.func42, Try.ntmps42
      go_wp2_with fail
      refine (HC.out _).mono ?_; rintro e w1 ⟨rfl, o1⟩
      have hf := o1.has (Has.new w 25 #[.int .i64 1, .int .i64 bits, .int .i64 0, .int .i64 0, .int .i64 0]) (fun f => f)
      obtain ⟨f0, f1, f2, f3, f4, ff⟩ := hf.facts5
      clear ff
      go_wp2_with fail
      go_ret
      exact ⟨_, rfl, Has.new _ _ _, (((Only.refl _ _).alloc _).trans o1).alloc _⟩
    · have hv : Cl.widths ⟨4, bits, 0, 0, 0⟩ = (1, bits, bits) := by simp [Cl.widths, Cl.sizes, hc]
      rw [hc] at HC
      rw [hv]
      have HC := Lib.hid HC
      clear hv hc
      simp only [Cl.cells] at *
      go_enter Try.func42, Try.ntmps42
      go_wp2_with fail
      refine (HC.out _).mono ?_; rintro e w1 ⟨rfl, o1⟩
      have hf := o1.has (Has.new w 25 #[.int .i64 4, .int .i64 bits, .int .i64 0, .int .i64 0, .int .i64 0]) (fun f => f)
      obtain ⟨f0, f1, f2, f3, f4, ff⟩ := hf.facts5
      clear ff
      go_wp2_with fail
      go_ret
      exact ⟨_, rfl, Has.new _ _ _, (((Only.refl _ _).alloc _).trans o1).alloc _⟩
    · have hv : Cl.widths ⟨3, 1, 0, 0, 0⟩ = (1, 1, 1) := by simp [Cl.widths, Cl.sizes, hc]
      rw [hc] at HC
      rw [hv]
      have HC := Lib.hid HC
      clear hv hc
      simp only [Cl.cells] at *
      go_enter Try.func42, Try.ntmps42
      go_wp2_with fail
      refine (HC.out _).mono ?_; rintro e w1 ⟨rfl, o1⟩
      have hf := o1.has (Has.new w 25 #[.int .i64 3, .int .i64 1, .int .i64 0, .int .i64 0, .int .i64 0]) (fun f => f)
      obtain ⟨f0, f1, f2, f3, f4, ff⟩ := hf.facts5
      clear ff
      go_wp2_with fail
      go_ret
      exact ⟨_, rfl, Has.new _ _ _, (((Only.refl _ _).alloc _).trans o1).alloc _⟩
  · have hv : Cl.widths ⟨kind, bits, m, k, n⟩ = (0, 0, 0) := by simp [Cl.widths, Cl.sizes, hc]
    have h1 : (Cl.check ⟨kind, bits, m, k, n⟩ != 0) = true := by simpa using hc
    generalize Cl.check ⟨kind, bits, m, k, n⟩ = x at HC h1
    rw [hv]
    have HC := Lib.hid HC
    clear hv hc
    simp only [Cl.cells] at *
    go_enter Try.func42, Try.ntmps42
    go_wp2_with fail
    refine (HC.out _).mono ?_; rintro e w1 ⟨rfl, o1⟩
    have hf := o1.has (Has.new w 25 #[.int .i64 kind, .int .i64 bits, .int .i64 m, .int .i64 k, .int .i64 n]) (fun f => f)
    obtain ⟨f0, f1, f2, f3, f4, ff⟩ := hf.facts5
    clear ff
    go_wp2_with fail
    go_ret
    exact ⟨_, rfl, Has.new _ _ _, (((Only.refl _ _).alloc _).trans o1).alloc _⟩


end Go.Proofs.Ytbajgbjpaliecaa
