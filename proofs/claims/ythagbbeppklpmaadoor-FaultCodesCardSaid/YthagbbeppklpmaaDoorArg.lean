/- Arguments opened: a slice of structs whose fields are one cell each; a list of what every place holds. -/
import Derived.ProofKit
import Derived.Deep.Slices
import Derived.Deep.Fields
import Derived.Below
set_option linter.unusedSimpArgs false
set_option linter.unusedVariables false
namespace Go.Proofs.YthagbbeppklpmaaDoor
open Go.RowKit Go.ChangeShapes Go.WideShapes Go.Deep

/-- What every place below n has, in a list. -/
theorem listOf {α : Type} [Inhabited α] {p : Nat → α → Prop} : ∀ (n : Nat), (∀ i, i < n → ∃ a, p i a) → ∃ l : List α, l.length = n ∧ ∀ i, i < n → p i (l.getD i default)
  | 0, _ => ⟨[], rfl, fun i h => absurd h (Nat.not_lt_zero i)⟩
  | n + 1, h => by
    obtain ⟨l, hl, hp⟩ := listOf n fun i hi => h i (Nat.lt_succ_of_lt hi)
    obtain ⟨a, ha⟩ := h n (Nat.lt_succ_self n)
    refine ⟨l ++ [a], by simp [hl], fun i hi => ?_⟩
    by_cases e : i = n
    · subst e
      simpa [List.getD_eq_getElem?_getD, hl] using ha
    · have := hp i (by omega)
      simpa [List.getD_eq_getElem?_getD, List.getElem?_append_left (show i < l.length by omega)] using this

section
variable {H : Type} {enc : TypeId × Value → H} {P : Program} {w : World} {base : Nat} {spare : Nat → Bool} {held : Bool}
theorem open_rows {t e : TypeId} {fs : Array Field} {A : Option Addr} {len cap : Nat} {d : DataW H} {p : List MemPlace} (ht : P.underlying t = some (.slice e)) (he : P.underlying e = some (.struct fs))
    (hone : oneCellFields P fs = true) (hC : P.cellsOf e = fs.size) (h : DataW.Trod enc P w base spare held t (.slice A len cap) d p) :
    len ≤ cap ∧ cap ≤ maxLen ∧ ∀ i, i < len → ∃ ad, A = some ad ∧ ∃ cs : List Value, cs.length = fs.size ∧ (∀ j v, cs[j]? = some v → w.cell? (ad.add (i * fs.size + j)) = some v) ∧
      ∀ (j : Nat) (f : Field) (v : Value), fs[j]? = some f → cs[j]? = some v → ∃ n y, DataW.trod enc P w base spare held n f.type [v] = some y := by
  obtain ⟨fuel, hf⟩ := h
  rcases open_slice ht hf with ⟨hcs, _⟩ | ⟨a, l, c, m, n, D, Pl, hcs, _, hl, hm, hmm, _, hi⟩
  · simp [Value.cells] at hcs
    obtain ⟨rfl, rfl, rfl⟩ := hcs
    exact ⟨Nat.le_refl _, Nat.zero_le _, fun i hi => absurd hi (Nat.not_lt_zero i)⟩
  · simp [Value.cells] at hcs
    obtain ⟨rfl, rfl, rfl⟩ := hcs
    refine ⟨hl, hm, fun i hlt => ⟨a, rfl, ?_⟩⟩
    have him : i < m := by rw [hmm]; split <;> omega
    obtain ⟨cs, hc, ht'⟩ := hi i him
    rw [hC] at hc
    obtain ⟨_, hcl, hat⟩ := World.cells?_some hc
    obtain ⟨xs, n', _, _, _, _, hg⟩ := DataW.trod_struct he ht'
    refine ⟨cs, hcl, fun j v hj => ?_, fun j f v hj hv => ?_⟩
    · have hjl : j < fs.size := by have := (List.getElem?_eq_some_iff.1 hj).1; omega
      have := hat j hjl
      rw [← Go.Deep.add_add, this, hj]
    · obtain ⟨ho, hk⟩ := hone_of hone j f hj
      have h1 := hg j f hj
      rw [ho, hk] at h1
      have hjl : j < cs.length := (List.getElem?_eq_some_iff.1 hv).1
      have hv' : cs[j] = v := by simpa [List.getElem?_eq_getElem hjl] using hv
      rw [List.drop_eq_getElem_cons hjl, List.take_succ_cons, List.take_zero, hv'] at h1
      have hxl : j < xs.length := by
        have := (Array.getElem?_eq_some_iff.1 hj).1
        rename_i hxs
        rw [hxs]
        exact this
      exact ⟨n', xs[j], by rw [h1, List.getElem?_eq_getElem hxl]⟩
/-- A struct by value, all fields of one cell. -/
theorem open_agg {t : TypeId} {fs : Array Field} {r : Reach} {b0 : Nat} {v : Value} {d : DataW H} {p : List MemPlace} (hs : P.underlying t = some (.struct fs)) (hone : oneCellFields P fs = true) (hC : P.cellsOf t = fs.size)
    (hv : Value.okWide P w r b0 t v) (h : DataW.Trod enc P w base spare held t v d p) :
    ∃ cs : List Value, v = .agg ⟨cs⟩ ∧ cs.length = fs.size ∧ ∀ (j : Nat) (f : Field) (c : Value), fs[j]? = some f → cs[j]? = some c → ∃ n y, DataW.trod enc P w base spare held n f.type [c] = some y := by
  obtain ⟨cs, rfl, hsz⟩ := okWide_struct hs hv
  obtain ⟨l⟩ := cs
  have hl : l.length = fs.size := by simpa using hsz.trans hC
  refine ⟨l, rfl, hl, fun j f c hj hc => ?_⟩
  obtain ⟨fuel, hf⟩ := h
  obtain ⟨xs, n', _, _, _, hxs, hg⟩ := DataW.trod_struct hs hf
  obtain ⟨ho, hk⟩ := hone_of hone j f hj
  have h1 := hg j f hj
  rw [ho, hk] at h1
  have hjl : j < l.length := (List.getElem?_eq_some_iff.1 hc).1
  have hc' : l[j] = c := by simpa [List.getElem?_eq_getElem hjl] using hc
  simp only [Value.cells] at h1
  rw [List.drop_eq_getElem_cons hjl, List.take_succ_cons, List.take_zero, hc'] at h1
  have hxl : j < xs.length := by rw [hxs]; exact (Array.getElem?_eq_some_iff.1 hj).1
  exact ⟨n', xs[j], by rw [h1, List.getElem?_eq_getElem hxl]⟩
/-- A cell of a row, in both forms that a walk writes. -/
theorem row_cell {ad : Addr} {sz i j : Nat} {v : Value} (hs : 0 < j) (h : w.cell? (ad.add (i * sz + j)) = some v) : w.cell? ⟨(ad.add (i * sz)).block, (ad.add (i * sz)).off + j, none⟩ = some v := by
  rw [← h]
  congr 1
  unfold Addr.add
  by_cases hz : i * sz = 0
  · simp [hz, show ¬ j = 0 by omega]
  · simp [hz, show ¬ i * sz + j = 0 by omega, Nat.add_assoc]
end
end Go.Proofs.YthagbbeppklpmaaDoor
