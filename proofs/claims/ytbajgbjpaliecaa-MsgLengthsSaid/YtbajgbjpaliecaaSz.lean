/- shape: Sizes, Widths, Transfers, Words. -/
import Derived.Test.YtbajgbjpaliecaaSr
import Derived.Test.YtbajgbjpaliecaaPut
set_option linter.unusedSimpArgs false
set_option linter.unusedVariables false
namespace Go.Proofs.Ytbajgbjpaliecaa
open Go.RowKit

theorem Cl.good {kind bits m k n : Int} (h : Cl.check ⟨kind, bits, m, k, n⟩ = 0) :
    (kind = 2 ∧ (1 ≤ m ∧ m ≤ 6) ∧ (1 ≤ k ∧ k ≤ 6) ∧ (1 ≤ n ∧ n ≤ 6) ∧ 1 ≤ bits ∧ bits ≤ 64) ∨ ((kind = 1 ∨ kind = 4) ∧ m = 0 ∧ k = 0 ∧ n = 0 ∧ 1 ≤ bits ∧ bits ≤ 64) ∨ (kind = 3 ∧ m = 0 ∧ k = 0 ∧ n = 0 ∧ bits = 1) := by
  unfold Cl.check at h
  simp only at h
  split at h
  · split at h
    · rename_i a b; exact .inl ⟨a, b⟩
    · cases h
  · split at h
    · split at h
      · rename_i _ a b; exact .inr (.inl ⟨a, b⟩)
      · cases h
    · split at h
      · split at h
        · rename_i _ _ a b; exact .inr (.inr ⟨a, b⟩)
        · cases h
      · cases h
theorem prod6 {a b : Int} (ha : 1 ≤ a ∧ a ≤ 6) (hb : 1 ≤ b ∧ b ≤ 6) : 0 ≤ a * b ∧ a * b ≤ 36 :=
  ⟨Int.mul_nonneg (by omega) (by omega), Int.mul_le_mul ha.2 hb.2 (by omega) (by omega)⟩
theorem prod36 {a b : Int} (ha : 0 ≤ a ∧ a ≤ 36) (hb : 1 ≤ b ∧ b ≤ 64) : 0 ≤ a * b ∧ a * b ≤ 2304 :=
  ⟨Int.mul_nonneg (by omega) (by omega), Int.mul_le_mul ha.2 hb.2 (by omega) (by omega)⟩
def Cl.sizes (c : Cl) : Int × Int × Int := if c.check = 0 then if c.kind = 2 then (c.m * c.k, c.k * c.n, c.m * c.n) else if c.kind = 4 then (1, 1, 0) else (1, 1, 1) else (0, 0, 0)
def Cl.widths (c : Cl) : Int × Int × Int := if c.check = 0 then if c.kind = 4 then (1, c.bits, c.bits) else (c.bits, c.bits, c.bits) else (0, 0, 0)
def Cl.transfers (c : Cl) : Int × Int := if c.check = 0 then if c.kind = 2 then (c.m * c.k * c.bits, c.n) else if c.kind = 1 then (c.bits, 1) else (1, 1) else (0, 0)
def Cl.words (c : Cl) : Int := if c.kind = 4 then c.sizes.1 else c.sizes.1 + c.sizes.2.1

set_option maxRecDepth 100000 in
set_option maxHeartbeats 4000000 in
theorem ssizes_any (w : World) (c : Cl) : Calls Try.prog 59 #[.agg c.cells] w fun e w' => e = .returned (.tuple #[.int .i64 c.sizes.1, .int .i64 c.sizes.2.1, .int .i64 c.sizes.2.2]) ∧ Only (fun _ => False) w w' := by
  have HC := fun W => scheck_any W c
  obtain ⟨kind, bits, m, k, n⟩ := c
  by_cases hc : Cl.check ⟨kind, bits, m, k, n⟩ = 0
  · rcases Cl.good hc with ⟨rfl, hm, hk2, hn, hb⟩ | ⟨rfl | rfl, rfl, rfl, rfl, hb⟩ | ⟨rfl, rfl, rfl, rfl, rfl⟩
    · have hv : Cl.sizes ⟨2, bits, m, k, n⟩ = ((m * k), (k * n), (m * n)) := by simp [Cl.sizes, Cl.sizes, hc]
      rw [hc] at HC
      rw [hv]
      have p1 := prod6 hm hk2
      have p2 := prod6 hk2 hn
      have p3 := prod6 hm hn
      have p4 := prod36 p1 hb
      have q1 : IntKind.i64.wrap (m * k) = m * k := by rw [IntKind.wrap_i64]; omega
      have q2 : IntKind.i64.wrap (k * n) = k * n := by rw [IntKind.wrap_i64]; omega
      have q3 : IntKind.i64.wrap (m * n) = m * n := by rw [IntKind.wrap_i64]; omega
      have q4 : IntKind.i64.wrap (m * k * bits) = m * k * bits := by rw [IntKind.wrap_i64]; omega
      have q5 : IntKind.i64.wrap (m * k + k * n) = m * k + k * n := by rw [IntKind.wrap_i64]; omega
      have hbc := Lib.hid hc
      obtain ⟨p11, p12⟩ := p1
      obtain ⟨p21, p22⟩ := p2
      obtain ⟨p31, p32⟩ := p3
      obtain ⟨p41, p42⟩ := p4
      have HC := Lib.hid HC
      clear hv hc
      simp only [Cl.cells] at *
      go_enter Try.func59, Try.ntmps59
      go_wp2_with fail
      refine (HC.out _).mono ?_; rintro e w1 ⟨rfl, o1⟩
      have hf := o1.has (Has.new w 25 #[.int .i64 2, .int .i64 bits, .int .i64 m, .int .i64 k, .int .i64 n]) (fun f => f)
      obtain ⟨f0, f1, f2, f3, f4, ff⟩ := hf.facts5
      clear ff
      go_wp2_with fail
      go_quiet (fail)
      go_wp2_with fail
      go_ret3
      exact ⟨rfl, (((Only.refl _ _).alloc _).trans o1).drewN _⟩
    · have hv : Cl.sizes ⟨1, bits, 0, 0, 0⟩ = (1, 1, 1) := by simp [Cl.sizes, Cl.sizes, hc]
      rw [hc] at HC
      rw [hv]
      have HC := Lib.hid HC
      clear hv hc
      simp only [Cl.cells] at *
      go_enter Try.func59, Try.ntmps59
      go_wp2_with fail
      refine (HC.out _).mono ?_; rintro e w1 ⟨rfl, o1⟩
      have hf := o1.has (Has.new w 25 #[.int .i64 1, .int .i64 bits, .int .i64 0, .int .i64 0, .int .i64 0]) (fun f => f)
      obtain ⟨f0, f1, f2, f3, f4, ff⟩ := hf.facts5
      clear ff
      go_wp2_with fail
      go_ret3
      exact ⟨rfl, ((Only.refl _ _).alloc _).trans o1⟩
    · have hv : Cl.sizes ⟨4, bits, 0, 0, 0⟩ = (1, 1, 0) := by simp [Cl.sizes, Cl.sizes, hc]
      rw [hc] at HC
      rw [hv]
      have HC := Lib.hid HC
      clear hv hc
      simp only [Cl.cells] at *
      go_enter Try.func59, Try.ntmps59
      go_wp2_with fail
      refine (HC.out _).mono ?_; rintro e w1 ⟨rfl, o1⟩
      have hf := o1.has (Has.new w 25 #[.int .i64 4, .int .i64 bits, .int .i64 0, .int .i64 0, .int .i64 0]) (fun f => f)
      obtain ⟨f0, f1, f2, f3, f4, ff⟩ := hf.facts5
      clear ff
      go_wp2_with fail
      go_ret3
      exact ⟨rfl, ((Only.refl _ _).alloc _).trans o1⟩
    · have hv : Cl.sizes ⟨3, 1, 0, 0, 0⟩ = (1, 1, 1) := by simp [Cl.sizes, Cl.sizes, hc]
      rw [hc] at HC
      rw [hv]
      have HC := Lib.hid HC
      clear hv hc
      simp only [Cl.cells] at *
      go_enter Try.func59, Try.ntmps59
      go_wp2_with fail
      refine (HC.out _).mono ?_; rintro e w1 ⟨rfl, o1⟩
      have hf := o1.has (Has.new w 25 #[.int .i64 3, .int .i64 1, .int .i64 0, .int .i64 0, .int .i64 0]) (fun f => f)
      obtain ⟨f0, f1, f2, f3, f4, ff⟩ := hf.facts5
      clear ff
      go_wp2_with fail
      go_ret3
      exact ⟨rfl, ((Only.refl _ _).alloc _).trans o1⟩
  · have hv : Cl.sizes ⟨kind, bits, m, k, n⟩ = (0, 0, 0) := by simp [Cl.sizes, Cl.sizes, hc]
    have h1 : (Cl.check ⟨kind, bits, m, k, n⟩ != 0) = true := by simpa using hc
    generalize Cl.check ⟨kind, bits, m, k, n⟩ = x at HC h1
    rw [hv]
    have HC := Lib.hid HC
    clear hv hc
    simp only [Cl.cells] at *
    go_enter Try.func59, Try.ntmps59
    go_wp2_with fail
    refine (HC.out _).mono ?_; rintro e w1 ⟨rfl, o1⟩
    have hf := o1.has (Has.new w 25 #[.int .i64 kind, .int .i64 bits, .int .i64 m, .int .i64 k, .int .i64 n]) (fun f => f)
    obtain ⟨f0, f1, f2, f3, f4, ff⟩ := hf.facts5
    clear ff
    go_wp2_with fail
    all_goals
      go_ret3
      exact ⟨rfl, ((Only.refl _ _).alloc _).trans o1⟩

set_option maxRecDepth 100000 in
set_option maxHeartbeats 4000000 in
theorem swidths_any (w : World) (c : Cl) : Calls Try.prog 60 #[.agg c.cells] w fun e w' => e = .returned (.tuple #[.int .i64 c.widths.1, .int .i64 c.widths.2.1, .int .i64 c.widths.2.2]) ∧ Only (fun _ => False) w w' := by
  have HC := fun W => scheck_any W c
  obtain ⟨kind, bits, m, k, n⟩ := c
  by_cases hc : Cl.check ⟨kind, bits, m, k, n⟩ = 0
  · rcases Cl.good hc with ⟨rfl, hm, hk2, hn, hb⟩ | ⟨rfl | rfl, rfl, rfl, rfl, hb⟩ | ⟨rfl, rfl, rfl, rfl, rfl⟩
    · have hv : Cl.widths ⟨2, bits, m, k, n⟩ = (bits, bits, bits) := by simp [Cl.widths, Cl.sizes, hc]
      rw [hc] at HC
      rw [hv]
      have p1 := prod6 hm hk2
      have p2 := prod6 hk2 hn
      have p3 := prod6 hm hn
      have p4 := prod36 p1 hb
      have q1 : IntKind.i64.wrap (m * k) = m * k := by rw [IntKind.wrap_i64]; omega
      have q2 : IntKind.i64.wrap (k * n) = k * n := by rw [IntKind.wrap_i64]; omega
      have q3 : IntKind.i64.wrap (m * n) = m * n := by rw [IntKind.wrap_i64]; omega
      have q4 : IntKind.i64.wrap (m * k * bits) = m * k * bits := by rw [IntKind.wrap_i64]; omega
      have q5 : IntKind.i64.wrap (m * k + k * n) = m * k + k * n := by rw [IntKind.wrap_i64]; omega
      have hbc := Lib.hid hc
      obtain ⟨p11, p12⟩ := p1
      obtain ⟨p21, p22⟩ := p2
      obtain ⟨p31, p32⟩ := p3
      obtain ⟨p41, p42⟩ := p4
      have HC := Lib.hid HC
      clear hv hc
      simp only [Cl.cells] at *
      go_enter Try.func60, Try.ntmps60
      go_wp2_with fail
      refine (HC.out _).mono ?_; rintro e w1 ⟨rfl, o1⟩
      have hf := o1.has (Has.new w 25 #[.int .i64 2, .int .i64 bits, .int .i64 m, .int .i64 k, .int .i64 n]) (fun f => f)
      obtain ⟨f0, f1, f2, f3, f4, ff⟩ := hf.facts5
      clear ff
      go_wp2_with fail
      go_quiet (fail)
      go_wp2_with fail
      go_ret3
      exact ⟨rfl, (((Only.refl _ _).alloc _).trans o1).drewN _⟩
    · have hv : Cl.widths ⟨1, bits, 0, 0, 0⟩ = (bits, bits, bits) := by simp [Cl.widths, Cl.sizes, hc]
      rw [hc] at HC
      rw [hv]
      have HC := Lib.hid HC
      clear hv hc
      simp only [Cl.cells] at *
      go_enter Try.func60, Try.ntmps60
      go_wp2_with fail
      refine (HC.out _).mono ?_; rintro e w1 ⟨rfl, o1⟩
      have hf := o1.has (Has.new w 25 #[.int .i64 1, .int .i64 bits, .int .i64 0, .int .i64 0, .int .i64 0]) (fun f => f)
      obtain ⟨f0, f1, f2, f3, f4, ff⟩ := hf.facts5
      clear ff
      go_wp2_with fail
      go_quiet (fail)
      go_wp2_with fail
      go_ret3
      exact ⟨rfl, (((Only.refl _ _).alloc _).trans o1).drewN _⟩
    · have hv : Cl.widths ⟨4, bits, 0, 0, 0⟩ = (1, bits, bits) := by simp [Cl.widths, Cl.sizes, hc]
      rw [hc] at HC
      rw [hv]
      have HC := Lib.hid HC
      clear hv hc
      simp only [Cl.cells] at *
      go_enter Try.func60, Try.ntmps60
      go_wp2_with fail
      refine (HC.out _).mono ?_; rintro e w1 ⟨rfl, o1⟩
      have hf := o1.has (Has.new w 25 #[.int .i64 4, .int .i64 bits, .int .i64 0, .int .i64 0, .int .i64 0]) (fun f => f)
      obtain ⟨f0, f1, f2, f3, f4, ff⟩ := hf.facts5
      clear ff
      go_wp2_with fail
      go_quiet (fail)
      go_wp2_with fail
      go_ret3
      exact ⟨rfl, (((Only.refl _ _).alloc _).trans o1).drewN _⟩
    · have hv : Cl.widths ⟨3, 1, 0, 0, 0⟩ = (1, 1, 1) := by simp [Cl.widths, Cl.sizes, hc]
      rw [hc] at HC
      rw [hv]
      have HC := Lib.hid HC
      clear hv hc
      simp only [Cl.cells] at *
      go_enter Try.func60, Try.ntmps60
      go_wp2_with fail
      refine (HC.out _).mono ?_; rintro e w1 ⟨rfl, o1⟩
      have hf := o1.has (Has.new w 25 #[.int .i64 3, .int .i64 1, .int .i64 0, .int .i64 0, .int .i64 0]) (fun f => f)
      obtain ⟨f0, f1, f2, f3, f4, ff⟩ := hf.facts5
      clear ff
      go_wp2_with fail
      go_quiet (fail)
      go_wp2_with fail
      go_ret3
      exact ⟨rfl, (((Only.refl _ _).alloc _).trans o1).drewN _⟩
  · have hv : Cl.widths ⟨kind, bits, m, k, n⟩ = (0, 0, 0) := by simp [Cl.widths, Cl.sizes, hc]
    have h1 : (Cl.check ⟨kind, bits, m, k, n⟩ != 0) = true := by simpa using hc
    generalize Cl.check ⟨kind, bits, m, k, n⟩ = x at HC h1
    rw [hv]
    have HC := Lib.hid HC
    clear hv hc
    simp only [Cl.cells] at *
    go_enter Try.func60, Try.ntmps60
    go_wp2_with fail
    refine (HC.out _).mono ?_; rintro e w1 ⟨rfl, o1⟩
    have hf := o1.has (Has.new w 25 #[.int .i64 kind, .int .i64 bits, .int .i64 m, .int .i64 k, .int .i64 n]) (fun f => f)
    obtain ⟨f0, f1, f2, f3, f4, ff⟩ := hf.facts5
    clear ff
    go_wp2_with fail
    all_goals
      go_ret3
      exact ⟨rfl, ((Only.refl _ _).alloc _).trans o1⟩


end Go.Proofs.Ytbajgbjpaliecaa
