/- Two rows of the call's own that share no block. -/
import Derived.Test.YthkgjhjfgoglhaaDoorBq
import Derived.Deep.AppendLies
import Derived.Deep.RegionHeldLaw
set_option linter.unusedSimpArgs false
set_option linter.unusedVariables false
namespace Go.Proofs.YthkgjhjfgoglhaaDoor
open Go.RowKit

def Sep (u v : Value) : Prop := ∀ g, u.ownBlock = some g → v.ownBlock ≠ some g
theorem Sep.symm {u v : Value} (h : Sep u v) : Sep v u := fun g hg hu => h g hu hg
theorem own_lt {w : World} {base n size : Nat} {e : TypeId} {v : Value} {xs : List Value} (h : w.ownsRow base e size v n xs) {k : Nat} (q : v.ownBlock = some k) : k < w.heap.size := by
  rcases h.2 with ⟨rfl, _⟩ | ⟨g, cap, cur, rfl, hb, hh, _⟩
  · cases q
  · cases q; exact lt_of_block hh
theorem Sep.app {W : World} {base n size : Nat} {e : TypeId} {u u' v : Value} {xs : List Value} (h : Sep u v) (hv : W.ownsRow base e size v n xs) (hu : u'.ownBlock = u.ownBlock ∨ u'.ownBlock = some W.heap.size) : Sep u' v := by
  intro g hg hvg
  rcases hu with hu | hu
  · exact h g (hu ▸ hg) hvg
  · rw [hu] at hg
    have := own_lt hv hvg
    have := Option.some.inj hg
    omega
theorem Sep.lies {W : World} {base n m c g size : Nat} {e : TypeId} {u v : Value} {xs : List Value} (h : Sep u v) (hv : W.ownsRow base e size v n xs) (hu : u.ownBlock = some g ∨ g = W.heap.size) : Sep (.slice (some ⟨g, 0, none⟩) m c) v :=
  h.app hv (hu.elim (fun e => .inl e.symm) (fun e => .inr (by rw [e]; rfl)))
theorem Sep.ne {u v : Value} (h : Sep u v) : v.ownBlock = none ∨ v.ownBlock ≠ u.ownBlock := by
  cases hv : v.ownBlock with
  | none => exact .inl rfl
  | some g =>
    refine .inr fun e => ?_
    exact h g e.symm hv
/-- One cell in a new block, the block by its number. -/
theorem cell_one_at (w : World) (x : Value) (t : TypeId) (n : Nat) (hn : n = w.heap.size) : ∀ j u, [x][j]? = some u → (w.alloc (.cells #[x] t)).cell? ((⟨n, 0, none⟩ : Addr).add j) = some u := by
  subst hn
  exact cell_one_new w x t
theorem news_alloc {w : World} {a : Addr} {xs : List Value} (h : ∀ j u, xs[j]? = some u → w.cell? (a.add j) = some u) (o : Obj) : ∀ j u, xs[j]? = some u → (w.alloc o).cell? (a.add j) = some u := fun j u hj => Lib.cell?_alloc_some _ (h j u hj)
/-- What is to be appended next lies in a block that the append ahead of it leaves alone. -/
theorem news_grown {w w' : World} {base n size b : Nat} {e : TypeId} {u : Value} {ys : List Value} {xs : List Value} (own : w.ownsRow base e size u n ys) (hg : w.grownBy w' u.ownBlock) (hb : u.ownBlock ≠ some b) (h : ∀ j x, xs[j]? = some x → w.cell? ((⟨b, 0, none⟩ : Addr).add j) = some x) : ∀ j x, xs[j]? = some x → w'.cell? ((⟨b, 0, none⟩ : Addr).add j) = some x :=
  fun j x hj => hg.cell (h j x hj) (by rw [addB]; exact fun e => hb e.symm)
end Go.Proofs.YthkgjhjfgoglhaaDoor
