/- shape.Check, and the reference's. -/
import Derived.Test.YtbajgbjpaliecaaProg
import Derived.Test.YtbajgbjpaliecaaMem
import Derived.WalkKit
import Derived.WalkSpells
import Derived.WideLaws
import Derived.RegionTactic
import Derived.BigQuiet
import Derived.Deep.QuietTactic
import Derived.Outline
import Derived.Lib.Hide
import Derived.LoopTactic
set_option linter.unusedSimpArgs false
set_option linter.unusedVariables false
namespace Go.Proofs.Ytbajgbjpaliecaa
open Go.RowKit

/-- A class. -/
structure Cl where
  kind : Int
  bits : Int
  m : Int
  k : Int
  n : Int
def Cl.cells (c : Cl) : Array Value := #[.int .i64 c.kind, .int .i64 c.bits, .int .i64 c.m, .int .i64 c.k, .int .i64 c.n]
def sideB (n : Int) : Bool := decide (1 ≤ n ∧ n ≤ 6)
def inB (n most : Int) : Bool := decide (1 ≤ n ∧ n ≤ most)
def Cl.check (c : Cl) : Int :=
  if c.kind = 2 then if (1 ≤ c.m ∧ c.m ≤ 6) ∧ (1 ≤ c.k ∧ c.k ≤ 6) ∧ (1 ≤ c.n ∧ c.n ≤ 6) ∧ 1 ≤ c.bits ∧ c.bits ≤ 64 then 0 else 11
  else if c.kind = 1 ∨ c.kind = 4 then if c.m = 0 ∧ c.k = 0 ∧ c.n = 0 ∧ 1 ≤ c.bits ∧ c.bits ≤ 64 then 0 else 11
  else if c.kind = 3 then if c.m = 0 ∧ c.k = 0 ∧ c.n = 0 ∧ c.bits = 1 then 0 else 11
  else 15

theorem side_any (w : World) (n : Int) : Calls Try.prog 39 #[.int .i64 n] w fun e w' => e = .returned (.bool (sideB n)) ∧ w = w' := by
  by_cases h1 : 1 ≤ n
  · by_cases h2 : n ≤ 6
    · rw [show sideB n = true from decide_eq_true ⟨h1, h2⟩]
      go_enter Try.func39, Try.ntmps39
      go_wp2
      go_ret
      exact ⟨rfl, rfl⟩
    · rw [show sideB n = false from decide_eq_false (fun h => h2 h.2)]
      go_enter Try.func39, Try.ntmps39
      go_wp2
      go_ret
      exact ⟨rfl, rfl⟩
  · rw [show sideB n = false from decide_eq_false (fun h => h1 h.1)]
    go_enter Try.func39, Try.ntmps39
    go_wp2
    go_ret
    exact ⟨rfl, rfl⟩
theorem in_any (w : World) (n most : Int) : Calls Try.prog 40 #[.int .i64 n, .int .i64 most] w fun e w' => e = .returned (.bool (inB n most)) ∧ w = w' := by
  by_cases h1 : 1 ≤ n
  · by_cases h2 : n ≤ most
    · rw [show inB n most = true from decide_eq_true ⟨h1, h2⟩]
      go_enter Try.func40, Try.ntmps40
      go_wp2
      go_ret
      exact ⟨rfl, rfl⟩
    · rw [show inB n most = false from decide_eq_false (fun h => h2 h.2)]
      go_enter Try.func40, Try.ntmps40
      go_wp2
      go_ret
      exact ⟨rfl, rfl⟩
  · rw [show inB n most = false from decide_eq_false (fun h => h1 h.1)]
    go_enter Try.func40, Try.ntmps40
    go_wp2
    go_ret
    exact ⟨rfl, rfl⟩

set_option maxRecDepth 100000 in
set_option maxHeartbeats 4000000 in
theorem scheck_any (w : World) (c : Cl) : Calls Try.prog 22 #[.agg c.cells] w fun e w' => e = .returned (.int .i64 c.check) ∧ Only (fun _ => False) w w' := by
  obtain ⟨kind, bits, m, k, n⟩ := c
  have HS := Lib.hid side_any
  by_cases hk : kind = 1 ∨ kind = 2 ∨ kind = 3 ∨ kind = 4
  · rcases hk with rfl | rfl | rfl | rfl
    all_goals
      simp only [Cl.cells]
      go_enter Try.func22, Try.ntmps22
      go_wp2_with (go_at_call 39; refine (HS.out _ _).mono ?_; rintro e w' ⟨rfl, rfl⟩)
    all_goals
      go_ret
      refine ⟨?_, (Only.refl _ _).alloc _⟩
      simp_all [Cl.check, sideB]
      try omega
  · have h1 : (kind == 1) = false := by simp; omega
    have h2 : (kind == 2) = false := by simp; omega
    have h3 : (kind == 3) = false := by simp; omega
    have h4 : (kind == 4) = false := by simp; omega
    have hc : Cl.check ⟨kind, bits, m, k, n⟩ = 15 := by unfold Cl.check; rw [if_neg (by show ¬ kind = 2; omega), if_neg (by show ¬ (kind = 1 ∨ kind = 4); omega), if_neg (by show ¬ kind = 3; omega)]
    rw [hc]
    clear hc hk
    simp only [Cl.cells]
    go_enter Try.func22, Try.ntmps22
    go_wp2
    all_goals
      go_ret
      exact ⟨rfl, (Only.refl _ _).alloc _⟩

end Go.Proofs.Ytbajgbjpaliecaa
