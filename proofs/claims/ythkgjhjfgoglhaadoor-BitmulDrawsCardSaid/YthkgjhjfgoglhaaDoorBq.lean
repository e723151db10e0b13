/- The reference of layer 24: Wrong. -/
import Derived.Test.YthkgjhjfgoglhaaDoorRo
set_option linter.unusedSimpArgs false
set_option linter.unusedVariables false
namespace Go.Proofs.YthkgjhjfgoglhaaDoor
open Go.RowKit

def Odd2 (a b r : List Bool) (B : Nat) (e : Ending) (W : World) : Prop := (a.length = b.length ∧ ∃ A c, e = .returned (.tuple #[.slice A r.length c, .bool true]) ∧ W.ownsRow B 4 1 (.slice A r.length c) r.length (bcellsB r)) ∨ (a.length ≠ b.length ∧ e = .returned (.tuple #[.slice none 0 0, .bool false]))
def OddU (a b r : List Bool) (W : World) (v : Value) (n : Nat) (t : Bool) : Prop := (a.length = b.length ∧ n = r.length ∧ t = true ∧ Reads W v (bcellsB r)) ∨ (a.length ≠ b.length ∧ t = false)
theorem Odd2.uni {a b r : List Bool} {B : Nat} {e : Ending} {W : World} (h : Odd2 a b r B e W) : ∃ A n c t, e = .returned (.tuple #[.slice A n c, .bool t]) ∧ OddU a b r W (.slice A n c) n t := by
  rcases h with ⟨hl, A, c, rfl, hv⟩ | ⟨hl, rfl⟩
  · exact ⟨A, _, c, true, rfl, .inl ⟨hl, rfl, rfl, Reads.ofOwn hv (by simp [bcellsB_length])⟩⟩
  · exact ⟨none, 0, 0, false, rfl, .inr ⟨hl, rfl⟩⟩
theorem OddU.inner {a b r : List Bool} {n : Nat} {W W' : World} {v : Value} {t : Bool} (h : OddU a b r W v n t) (o : Only (fun _ => False) W W') : OddU a b r W' v n t := by
  rcases h with ⟨h1, h2, h3, h4⟩ | h
  · exact .inl ⟨h1, h2, h3, h4.inner o⟩
  · exact .inr h
def RWrongPost (r : Option (List Bool)) (e : Ending) (W : World) : Prop := match r with
  | some l => ∃ v, e = .returned (.tuple #[v, .int .i64 0]) ∧ Reads W v (bcellsB l)
  | none => e = .returned (.tuple #[.slice none 0 0, .int .i64 11])

end Go.Proofs.YthkgjhjfgoglhaaDoor
