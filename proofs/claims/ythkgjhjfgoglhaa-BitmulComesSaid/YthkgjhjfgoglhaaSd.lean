/- bitmul: check, the reference's Good; Send. -/
import Derived.Test.YthkgjhjfgoglhaaSw
set_option linter.unusedSimpArgs false
set_option linter.unusedVariables false
namespace Go.Proofs.Ythkgjhjfgoglhaa
open Go.RowKit

theorem VL.putT {W W' : World} {base b : Nat} {v : Value} {l : List Bool} {t : TypeId} {cs : Array Value} (h : VL W base v l) (hb : Has W b t cs) (hne : (70 : TypeId) ≠ t) (o : Only (· = b) W W') : VL W' base v l := by
  rcases h with h | ⟨g, h1, h2, c, h3, h4⟩
  · exact .inl h
  · exact .inr ⟨g, h1, h2, o.row ⟨c, h3, h4⟩ (fun e => has_ne (show Has W g 70 c from h3) hb hne e)⟩
def goodB (n : Nat) : Bool := decide (1 ≤ n) && decide (n ≤ 4096)
theorem goodB_true {n : Nat} : goodB n = true ↔ 1 ≤ n ∧ n ≤ 4096 := by simp [goodB]
theorem goodB_false {n : Nat} : goodB n = false ↔ n < 1 ∨ 4096 < n := by
  rw [← Bool.not_eq_true, goodB_true]; omega
theorem bcheck_any (w : World) (n : Nat) : Calls Try.prog 32 #[.int .i64 n] w fun e w' => e = .returned (.int .i64 (if goodB n = true then 0 else 2)) ∧ w = w' := by
  cases h : goodB n
  · rw [goodB_false] at h
    rcases h with h | h
    · have h1 : (n : Int) < 1 := by omega
      clear h
      go_enter Try.func32, Try.ntmps32
      go_wp2_with fail
      go_ret
      exact ⟨rfl, rfl⟩
    · have h1 : ¬ (n : Int) < 1 := by omega
      have h2 : (n : Int) > 4096 := by omega
      clear h
      go_enter Try.func32, Try.ntmps32
      go_wp2_with fail
      go_ret
      exact ⟨rfl, rfl⟩
  · rw [goodB_true] at h
    have h1 : ¬ (n : Int) < 1 := by omega
    have h2 : ¬ (n : Int) > 4096 := by omega
    clear h
    go_enter Try.func32, Try.ntmps32
    go_wp2_with fail
    go_ret
    exact ⟨rfl, rfl⟩
theorem rgood_any (w : World) (n : Nat) : Calls Try.prog 34 #[.int .i64 n] w fun e w' => e = .returned (.bool (goodB n)) ∧ w = w' := by
  cases h : goodB n
  · rw [goodB_false] at h
    rcases h with h | h
    · have h1 : ¬ (n : Int) ≥ 1 := by omega
      have h3 : decide ((n : Int) ≥ 1) = false := by simpa using h1
      clear h
      go_enter Try.func34, Try.ntmps34
      go_wp2_with fail
      go_ret
      exact ⟨rfl, rfl⟩
    · have h1 : (n : Int) ≥ 1 := by omega
      have h2 : ¬ (n : Int) ≤ 4096 := by omega
      have h3 : decide ((n : Int) ≤ 4096) = false := by simpa using h2
      clear h
      go_enter Try.func34, Try.ntmps34
      go_wp2_with fail
      go_ret
      exact ⟨rfl, rfl⟩
  · rw [goodB_true] at h
    have h1 : (n : Int) ≥ 1 := by omega
    have h2 : (n : Int) ≤ 4096 := by omega
    clear h
    go_enter Try.func34, Try.ntmps34
    go_wp2_with fail
    go_ret
    exact ⟨rfl, rfl⟩
end Go.Proofs.Ythkgjhjfgoglhaa
