/- A block of cells written over in its midst: a message's sum, seed, words, shares. -/
import Derived.Test.YtbajgbjpaliecaaMo
set_option linter.unusedSimpArgs false
set_option linter.unusedVariables false
namespace Go.Proofs.Ytbajgbjpaliecaa
open Go.RowKit

theorem Has.setSeg : ∀ (vs pre old post : List Value) {w : World} {b : Nat} {t : TypeId}, old.length = vs.length → Has w b t (pre ++ (old ++ post)).toArray → Has (w.setCells b pre.length vs) b t (pre ++ (vs ++ post)).toArray
  | [], pre, old, post, w, b, t, hl, h => by
    obtain rfl : old = [] := List.eq_nil_of_length_eq_zero hl
    exact h
  | v :: vs, pre, [], post, w, b, t, hl, h => by simp at hl
  | v :: vs, pre, o :: old, post, w, b, t, hl, h => by
    have h1 : Has (w.setCell ⟨b, pre.length, none⟩ v) b t (pre ++ (v :: (old ++ post))).toArray := h.put pre.length v (by simp)
    have h2 := Has.setSeg vs (pre ++ [v]) old post (by simpa using hl) (w := w.setCell ⟨b, pre.length, none⟩ v) (b := b) (t := t) (by simpa using h1)
    rw [World.setCells]
    simpa using h2
theorem Has.setAll {w : World} {b : Nat} {t : TypeId} {cs new : Array Value} (h : Has w b t cs) (hl : cs.size = new.size) : Has (w.setCells b 0 new.toList) b t new := by
  have := Has.setSeg new.toList [] cs.toList [] (by simpa using hl) (w := w) (b := b) (t := t) (by simpa using h)
  simpa using this
theorem Has.setDig {w : World} {b : Nat} {t : TypeId} {m : Mg} {vw vs : Value} (h : Has w b t (m.cells vw vs).toArray) (d : List Int) (hd : d.length = m.dig.length) : Has (w.setCells b 17 (u8s d)) b t (({ m with dig := d } : Mg).cells vw vs).toArray :=
  Has.setSeg (u8s d) (m.head vw []) (u8s m.dig) (u8s m.seed ++ [vs]) (by simp [u8s, hd]) h
theorem Has.setSeed {w : World} {b : Nat} {t : TypeId} {m : Mg} {vw vs : Value} (h : Has w b t (m.cells vw vs).toArray) (ok : m.dig.length = 32) (d : List Int) (hd : d.length = m.seed.length) : Has (w.setCells b 49 (u8s d)) b t (({ m with seed := d } : Mg).cells vw vs).toArray := by
  have := Has.setSeg (u8s d) (m.head vw [] ++ u8s m.dig) (u8s m.seed) [vs] (by simp [u8s, hd]) (w := w) (b := b) (t := t) (by rw [List.append_assoc]; exact h)
  rw [List.append_assoc] at this
  have e : (m.head vw [] ++ u8s m.dig).length = 49 := by simp [Mg.head, u8s, ok]
  rw [e] at this
  exact this
theorem Has.setWords {w : World} {b : Nat} {t : TypeId} {m : Mg} {vw vs : Value} (h : Has w b t (m.cells vw vs).toArray) (u : Value) : Has (w.setCell ⟨b, 16, none⟩ u) b t (m.cells u vs).toArray :=
  h.put 16 u (by unfold Mg.cells Mg.head; simp)
theorem Has.setShares {w : World} {b : Nat} {t : TypeId} {m : Mg} {vw vs : Value} (h : Has w b t (m.cells vw vs).toArray) (ok : m.Ok) (u : Value) : Has (w.setCell ⟨b, 81, none⟩ u) b t (m.cells vw u).toArray := by
  have := Has.setSeg [u] (m.head vw [] ++ (u8s m.dig ++ u8s m.seed)) [vs] [] rfl (w := w) (b := b) (t := t) (by simp only [List.append_assoc, List.append_nil]; exact h)
  have e : (m.head vw [] ++ (u8s m.dig ++ u8s m.seed)).length = 81 := by simp [Mg.head, u8s, ok.dig, ok.seed]
  rw [e] at this
  simp only [List.append_assoc, List.append_nil, List.singleton_append, World.setCells] at this
  exact this
end Go.Proofs.Ytbajgbjpaliecaa
