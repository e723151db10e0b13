/- The reference of layer 24: Odd and Both. -/
import Derived.Test.YthkgjhjfgoglhaaDoorBl
set_option linter.unusedSimpArgs false
set_option linter.unusedVariables false
namespace Go.Proofs.YthkgjhjfgoglhaaDoor
open Go.RowKit

theorem own_ge2 {w : World} {base : Nat} {e : TypeId} {size n : Nat} {v : Value} {xs : List Value} (h : w.ownsRow base e size v n xs) {k : Nat} (q : v.ownBlock = some k) : base ≤ k := by
  rcases h.2 with ⟨rfl, _⟩ | ⟨g, cap, cur, rfl, hb, _⟩
  · cases q
  · cases q; exact hb
theorem own_base {w : World} {base base' n : Nat} {e : TypeId} {v : Value} {xs : List Value} (h : w.ownsRow base e 1 v n xs) (hb : base' ≤ base) : w.ownsRow base' e 1 v n xs := by
  refine ⟨h.1, ?_⟩
  rcases h.2 with h2 | ⟨g, cap, cur, e1, h3, h4⟩
  · exact .inl h2
  · exact .inr ⟨g, cap, cur, e1, Nat.le_trans hb h3, h4⟩
theorem bcellsB_at {l : List Bool} {k : Nat} (h : k < l.length) : (bcellsB l)[k]? = some (.bool (lf l k)) := by simp [bcellsB, lf, List.getD_eq_getElem?_getD, List.getElem?_eq_getElem h]
def lst (L : List (List Bool)) (j : Nat) : List Bool := L.getD j []
theorem lst_mem {L : List (List Bool)} {j : Nat} (h : j < L.length) : lst L j ∈ L := by
  unfold lst
  rw [List.getD_eq_getElem?_getD, List.getElem?_eq_getElem h]
  exact List.getElem_mem _
theorem mem_lst {L : List (List Bool)} {l : List Bool} (h : l ∈ L) : ∃ j, j < L.length ∧ lst L j = l := by
  obtain ⟨i, hi, rfl⟩ := List.getElem_of_mem h
  exact ⟨i, hi, by unfold lst; rw [List.getD_eq_getElem?_getD, List.getElem?_eq_getElem hi]; rfl⟩
/-- Whether an odd number of the first i lists is true at k. -/
def xr (L : List (List Bool)) (k : Nat) : Nat → Bool
  | 0 => false
  | i + 1 => xr L k i ^^ lf (lst L i) k
def sameLen (L : List (List Bool)) : Bool := L.all fun l => decide (l.length = (lst L 0).length)
def oddM (L : List (List Bool)) : List Bool := (List.range (lst L 0).length).map fun k => xr L k L.length
def OddPost (L : List (List Bool)) (B : Nat) (e : Ending) (W : World) : Prop :=
  if sameLen L = true then ∃ v, e = .returned (.tuple #[v, .bool true]) ∧ W.ownsRow B 4 1 v (oddM L).length (bcellsB (oddM L)) else e = .returned (.tuple #[.slice none 0 0, .bool false])
def Upto (L : List (List Bool)) (k : Nat) : Prop := ∀ j, j < k → (lst L j).length = (lst L 0).length
theorem Upto.zero (L : List (List Bool)) : Upto L 0 := fun j hj => absurd hj (Nat.not_lt_zero j)
theorem Upto.snoc {L : List (List Bool)} {k : Nat} (h : Upto L k) (e : (lst L k).length = (lst L 0).length) : Upto L (k + 1) := by
  intro j hj
  rcases Nat.lt_or_ge j k with h1 | h1
  · exact h j h1
  · obtain rfl : j = k := by omega
    exact e
theorem bne_xor (a b : Bool) : (a != b) = (a ^^ b) := by cases a <;> cases b <;> rfl

/-- At two lists, and at three. -/
theorem odd_two (a b : List Bool) : sameLen [a, b] = decide (b.length = a.length) ∧ (b.length = a.length → oddM [a, b] = xorL a b) := by
  constructor
  · simp [sameLen, lst]
  · intro h
    apply List.ext_getElem?
    intro i
    unfold oddM xorL
    by_cases hi : i < a.length
    · have e1 : lf a i = a[i] := lf_at hi
      have e2 : lf b i = b[i]'(by omega) := lf_at (by omega)
      simp [lst, hi, xr, e1, e2, List.getElem?_eq_getElem, h]
    · rw [List.getElem?_eq_none (by simp [lst]; omega), List.getElem?_eq_none (by simp; omega)]
theorem odd_three (a b c : List Bool) : sameLen [a, b, c] = decide (b.length = a.length ∧ c.length = a.length) ∧ (b.length = a.length → c.length = a.length → oddM [a, b, c] = xorL (xorL a b) c) := by
  constructor
  · simp [sameLen, lst]
  · intro h h2
    apply List.ext_getElem?
    intro i
    unfold oddM xorL
    by_cases hi : i < a.length
    · have e1 : lf a i = a[i] := lf_at hi
      have e2 : lf b i = b[i]'(by omega) := lf_at (by omega)
      have e3 : lf c i = c[i]'(by omega) := lf_at (by omega)
      simp [lst, hi, xr, e1, e2, e3, List.getElem?_eq_getElem, h, h2]
    · rw [List.getElem?_eq_none (by simp [lst]; omega), List.getElem?_eq_none (by simp; omega)]

end Go.Proofs.YthkgjhjfgoglhaaDoor
