/- The reference of layer 2: Same and Nums at equal lists. -/
import Derived.Test.YthkgjhjfgoglhaaDoorBw
import Derived.Lib.Hide
import Derived.Maps.AppendAt
import Derived.OwnWalk
set_option linter.unusedSimpArgs false
set_option linter.unusedVariables false
namespace Go.Proofs.YthkgjhjfgoglhaaDoor
open Go.RowKit

def bcellsB (l : List Bool) : List Value := l.map .bool
theorem bcellsB_snoc (l : List Bool) (b : Bool) : bcellsB (l ++ [b]) = bcellsB l ++ [.bool b] := by simp [bcellsB]
theorem bcellsB_length (l : List Bool) : (bcellsB l).length = l.length := by simp [bcellsB]
theorem addB (a : Addr) (n : Nat) : (a.add n).block = a.block := by unfold Addr.add; split <;> rfl
/-- A slice that reads as these values, wherever its row begins. -/
def Reads (w : World) (v : Value) (xs : List Value) : Prop := ∃ A c, v = .slice A xs.length c ∧ (xs = [] ∨ ∃ g : Addr, A = some g ∧ ∀ k x, xs[k]? = some x → w.cell? (g.add k) = some x)
theorem Reads.only {S : Nat → Prop} {w w' : World} {v : Value} {xs : List Value} (h : Reads w v xs) (o : Only S w w') (hS : ∀ g, v.ownBlock = some g → ¬ S g) : Reads w' v xs := by
  obtain ⟨A, c, rfl, h⟩ := h
  refine ⟨A, c, rfl, ?_⟩
  rcases h with h | ⟨g, rfl, h⟩
  · exact .inl h
  · exact .inr ⟨g, rfl, fun k x hx => o.cell (h k x hx) (by rw [addB]; exact hS g.block rfl)⟩
theorem Reads.inner {w w' : World} {v : Value} {xs : List Value} (h : Reads w v xs) (o : Only (fun _ => False) w w') : Reads w' v xs := h.only o (fun _ _ f => f)
theorem add_head (g k : Nat) : (⟨g, 0, none⟩ : Addr).add k = ⟨g, k, none⟩ := by
  cases k
  · rfl
  · simp [Addr.add]
theorem Reads.ofOwn {w : World} {base n : Nat} {e : TypeId} {v : Value} {xs : List Value} (h : w.ownsRow base e 1 v n xs) (hn : xs.length = n) : Reads w v xs := by
  rcases h.2 with ⟨rfl, h2⟩ | ⟨g, cap, cur, rfl, _⟩
  · exact ⟨none, 0, by rw [hn, h2], .inl (by rw [← List.length_eq_zero_iff]; omega)⟩
  · exact ⟨some ⟨g, 0, none⟩, cap, by rw [hn], .inr ⟨⟨g, 0, none⟩, rfl, fun k x hx => h.cells rfl k x hx⟩⟩
theorem Reads.ofRow {w : World} {g n c : Nat} {t : TypeId} {f : Nat → Value} (h : w.rowIs g t n f) : Reads w (.slice (some ⟨g, 0, none⟩) n c) ((List.range n).map f) := by
  refine ⟨_, c, by simp, .inr ⟨⟨g, 0, none⟩, rfl, fun k x hx => ?_⟩⟩
  have hk : k < n := by
    have := (List.getElem?_eq_some_iff.1 hx).1
    simpa using this
  rw [add_head, h.cell hk]
  simpa [hk] using hx
theorem Reads.at {w : World} {g : Addr} {n c : Nat} {xs : List Value} (h : Reads w (.slice (some g) n c) xs) {k : Nat} {x : Value} (hx : xs[k]? = some x) : w.cell? (g.add k) = some x := by
  obtain ⟨A, c', e, h⟩ := h
  rcases h with h | ⟨g', rfl, h⟩
  · subst h; cases hx
  · injection e with e1 e2 e3
    obtain rfl : g' = g := (Option.some.inj e1).symm
    exact h k x hx
/-- It is a literal slice: nil or not, its length known. -/
theorem Reads.shape {w : World} {v : Value} {xs : List Value} (h : Reads w v xs) : ∃ A c, v = .slice A xs.length c ∧ (∀ k x, xs[k]? = some x → ∃ g : Addr, A = some g ∧ w.cell? (g.add k) = some x) := by
  obtain ⟨A, c, rfl, h⟩ := h
  refine ⟨A, c, rfl, fun k x hx => ?_⟩
  rcases h with h | ⟨g, rfl, h⟩
  · subst h; cases hx
  · exact ⟨g, rfl, h k x hx⟩

set_option maxRecDepth 100000 in
set_option maxHeartbeats 2000000 in
theorem same_eq (w : World) (a b : Value) (l : List Bool) (ha : Reads w a (bcellsB l)) (hb : Reads w b (bcellsB l)) (hl : l.length ≤ 4611686018427387904) : Calls Tryd.prog 23 #[a, b] w fun x w' => x = .returned (.bool true) ∧ Only (fun _ => False) w w' := by
  obtain ⟨A, ca, rfl, ha'⟩ := ha.shape
  obtain ⟨B, cb, rfl, hb'⟩ := hb.shape
  rw [bcellsB_length] at *
  have HA := Lib.hid ha
  have HB := Lib.hid hb
  have HA' := Lib.hid ha'
  have HB' := Lib.hid hb'
  have HG : ∀ k, k < l.length → (bcellsB l)[k]? = some (.bool (l.getD k false)) := fun k hk => by simp [bcellsB, List.getD_eq_getElem?_getD, List.getElem?_eq_getElem hk]
  have HG := Lib.hid HG
  clear ha hb ha' hb'
  generalize hn : l.length = n at *
  clear hn
  go_enter Tryd.func23, Tryd.ntmps23
  go_wp2_with fail
  go_loopw [5] (fun i W => ∃ k : Nat, k ≤ n ∧ i = .int .i64 k ∧ Only (fun _ => False) w W) (fun i _ => n - (intOf i).toNat)
  case atStart => exact ⟨0, by omega, rfl, Only.refl _ _⟩
  case round =>
    obtain ⟨k, hk, rfl, ho⟩ := hrel
    have hk' : k < n ∨ k = n := by omega
    rcases hk' with hkn | rfl
    · have hki : (k : Int) < (n : Int) := by omega
      obtain ⟨g, rfl, _⟩ := HA'.out k _ (HG.out k hkn)
      obtain ⟨g2, rfl, _⟩ := HB'.out k _ (HG.out k hkn)
      have c1 := (HA.out.inner ho).at (HG.out k hkn)
      have c2 := (HB.out.inner ho).at (HG.out k hkn)
      generalize l.getD k false = b at *
      go_wp2_with fail
      go_quiet (fail)
      go_wp2_with fail
      go_roundw
      case rel => exact ⟨k + 1, by omega, by go_num, ho.drewN _⟩
      case measure => simp only [intOf]; omega
    · have hki : ¬ (k : Int) < (k : Int) := by omega
      go_wp2_with fail
      go_ret
      exact ⟨rfl, ho⟩

end Go.Proofs.YthkgjhjfgoglhaaDoor
