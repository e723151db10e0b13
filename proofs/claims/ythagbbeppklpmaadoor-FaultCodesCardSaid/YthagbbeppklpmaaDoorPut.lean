/- Blocks of a few cells: all their cells, and stores over all of them. -/
import Derived.Test.YthagbbeppklpmaaDoorMem
set_option linter.unusedSimpArgs false
set_option linter.unusedVariables false
namespace Go.Proofs.YthagbbeppklpmaaDoor
open Go.RowKit

theorem Has.put1 {w : World} {g : Nat} {t : TypeId} {cs : Array Value} (h : Has w g t cs) (hs : cs.size = 1) (x0 : Value) : Has (w.setCell ⟨g, 0, none⟩ x0) g t #[x0] := by
  obtain ⟨l⟩ := cs
  match l, hs with
  | [c0], _ => exact (h.put (cs' := #[x0]) 0 x0 (by simp))
theorem Has.off1 {w : World} {g b : Nat} {t : TypeId} {cs : Array Value} (h : Has w g t cs) (hne : g ≠ b) (x0 : Value) : Has (w.setCell ⟨b, 0, none⟩ x0) g t cs := (h.far (p := ⟨b, 0, none⟩) hne _)
theorem Only.put1 (w : World) (g : Nat) (x0 : Value) : Only (· = g) w (w.setCell ⟨g, 0, none⟩ x0) := ((Only.refl (· = g) w).setCell ⟨g, 0, none⟩ _ (fun _ => rfl))
theorem Has.facts1 {w : World} {g : Nat} {t : TypeId} {x0 : Value} (h : Has w g t #[x0]) :
    w.cell? ⟨g, 0, none⟩ = some x0 ∧ (∀ i, w.frozen? ⟨g, i, none⟩ = false) :=
  ⟨h.cell 0, h.free⟩

theorem Has.put2 {w : World} {g : Nat} {t : TypeId} {cs : Array Value} (h : Has w g t cs) (hs : cs.size = 2) (x0 x1 : Value) : Has ((w.setCell ⟨g, 0, none⟩ x0).setCell ⟨g, 1, none⟩ x1) g t #[x0, x1] := by
  obtain ⟨l⟩ := cs
  match l, hs with
  | [c0, c1], _ => exact ((h.put (cs' := #[x0, c1]) 0 x0 (by simp)).put (cs' := #[x0, x1]) 1 x1 (by simp))
theorem Has.off2 {w : World} {g b : Nat} {t : TypeId} {cs : Array Value} (h : Has w g t cs) (hne : g ≠ b) (x0 x1 : Value) : Has ((w.setCell ⟨b, 0, none⟩ x0).setCell ⟨b, 1, none⟩ x1) g t cs := ((h.far (p := ⟨b, 0, none⟩) hne _).far (p := ⟨b, 1, none⟩) hne _)
theorem Only.put2 (w : World) (g : Nat) (x0 x1 : Value) : Only (· = g) w ((w.setCell ⟨g, 0, none⟩ x0).setCell ⟨g, 1, none⟩ x1) := (((Only.refl (· = g) w).setCell ⟨g, 0, none⟩ _ (fun _ => rfl)).setCell ⟨g, 1, none⟩ _ (fun _ => rfl))
theorem Has.facts2 {w : World} {g : Nat} {t : TypeId} {x0 x1 : Value} (h : Has w g t #[x0, x1]) :
    w.cell? ⟨g, 0, none⟩ = some x0 ∧ w.cell? ⟨g, 1, none⟩ = some x1 ∧ (∀ i, w.frozen? ⟨g, i, none⟩ = false) :=
  ⟨h.cell 0, h.cell 1, h.free⟩

theorem Has.put3 {w : World} {g : Nat} {t : TypeId} {cs : Array Value} (h : Has w g t cs) (hs : cs.size = 3) (x0 x1 x2 : Value) : Has (((w.setCell ⟨g, 0, none⟩ x0).setCell ⟨g, 1, none⟩ x1).setCell ⟨g, 2, none⟩ x2) g t #[x0, x1, x2] := by
  obtain ⟨l⟩ := cs
  match l, hs with
  | [c0, c1, c2], _ => exact (((h.put (cs' := #[x0, c1, c2]) 0 x0 (by simp)).put (cs' := #[x0, x1, c2]) 1 x1 (by simp)).put (cs' := #[x0, x1, x2]) 2 x2 (by simp))
theorem Has.off3 {w : World} {g b : Nat} {t : TypeId} {cs : Array Value} (h : Has w g t cs) (hne : g ≠ b) (x0 x1 x2 : Value) : Has (((w.setCell ⟨b, 0, none⟩ x0).setCell ⟨b, 1, none⟩ x1).setCell ⟨b, 2, none⟩ x2) g t cs := (((h.far (p := ⟨b, 0, none⟩) hne _).far (p := ⟨b, 1, none⟩) hne _).far (p := ⟨b, 2, none⟩) hne _)
theorem Only.put3 (w : World) (g : Nat) (x0 x1 x2 : Value) : Only (· = g) w (((w.setCell ⟨g, 0, none⟩ x0).setCell ⟨g, 1, none⟩ x1).setCell ⟨g, 2, none⟩ x2) := ((((Only.refl (· = g) w).setCell ⟨g, 0, none⟩ _ (fun _ => rfl)).setCell ⟨g, 1, none⟩ _ (fun _ => rfl)).setCell ⟨g, 2, none⟩ _ (fun _ => rfl))
theorem Has.facts3 {w : World} {g : Nat} {t : TypeId} {x0 x1 x2 : Value} (h : Has w g t #[x0, x1, x2]) :
    w.cell? ⟨g, 0, none⟩ = some x0 ∧ w.cell? ⟨g, 1, none⟩ = some x1 ∧ w.cell? ⟨g, 2, none⟩ = some x2 ∧ (∀ i, w.frozen? ⟨g, i, none⟩ = false) :=
  ⟨h.cell 0, h.cell 1, h.cell 2, h.free⟩

theorem Has.put4 {w : World} {g : Nat} {t : TypeId} {cs : Array Value} (h : Has w g t cs) (hs : cs.size = 4) (x0 x1 x2 x3 : Value) : Has ((((w.setCell ⟨g, 0, none⟩ x0).setCell ⟨g, 1, none⟩ x1).setCell ⟨g, 2, none⟩ x2).setCell ⟨g, 3, none⟩ x3) g t #[x0, x1, x2, x3] := by
  obtain ⟨l⟩ := cs
  match l, hs with
  | [c0, c1, c2, c3], _ => exact ((((h.put (cs' := #[x0, c1, c2, c3]) 0 x0 (by simp)).put (cs' := #[x0, x1, c2, c3]) 1 x1 (by simp)).put (cs' := #[x0, x1, x2, c3]) 2 x2 (by simp)).put (cs' := #[x0, x1, x2, x3]) 3 x3 (by simp))
theorem Has.off4 {w : World} {g b : Nat} {t : TypeId} {cs : Array Value} (h : Has w g t cs) (hne : g ≠ b) (x0 x1 x2 x3 : Value) : Has ((((w.setCell ⟨b, 0, none⟩ x0).setCell ⟨b, 1, none⟩ x1).setCell ⟨b, 2, none⟩ x2).setCell ⟨b, 3, none⟩ x3) g t cs := ((((h.far (p := ⟨b, 0, none⟩) hne _).far (p := ⟨b, 1, none⟩) hne _).far (p := ⟨b, 2, none⟩) hne _).far (p := ⟨b, 3, none⟩) hne _)
theorem Only.put4 (w : World) (g : Nat) (x0 x1 x2 x3 : Value) : Only (· = g) w ((((w.setCell ⟨g, 0, none⟩ x0).setCell ⟨g, 1, none⟩ x1).setCell ⟨g, 2, none⟩ x2).setCell ⟨g, 3, none⟩ x3) := (((((Only.refl (· = g) w).setCell ⟨g, 0, none⟩ _ (fun _ => rfl)).setCell ⟨g, 1, none⟩ _ (fun _ => rfl)).setCell ⟨g, 2, none⟩ _ (fun _ => rfl)).setCell ⟨g, 3, none⟩ _ (fun _ => rfl))
theorem Has.facts4 {w : World} {g : Nat} {t : TypeId} {x0 x1 x2 x3 : Value} (h : Has w g t #[x0, x1, x2, x3]) :
    w.cell? ⟨g, 0, none⟩ = some x0 ∧ w.cell? ⟨g, 1, none⟩ = some x1 ∧ w.cell? ⟨g, 2, none⟩ = some x2 ∧ w.cell? ⟨g, 3, none⟩ = some x3 ∧ (∀ i, w.frozen? ⟨g, i, none⟩ = false) :=
  ⟨h.cell 0, h.cell 1, h.cell 2, h.cell 3, h.free⟩

theorem Has.put5 {w : World} {g : Nat} {t : TypeId} {cs : Array Value} (h : Has w g t cs) (hs : cs.size = 5) (x0 x1 x2 x3 x4 : Value) : Has (((((w.setCell ⟨g, 0, none⟩ x0).setCell ⟨g, 1, none⟩ x1).setCell ⟨g, 2, none⟩ x2).setCell ⟨g, 3, none⟩ x3).setCell ⟨g, 4, none⟩ x4) g t #[x0, x1, x2, x3, x4] := by
  obtain ⟨l⟩ := cs
  match l, hs with
  | [c0, c1, c2, c3, c4], _ => exact (((((h.put (cs' := #[x0, c1, c2, c3, c4]) 0 x0 (by simp)).put (cs' := #[x0, x1, c2, c3, c4]) 1 x1 (by simp)).put (cs' := #[x0, x1, x2, c3, c4]) 2 x2 (by simp)).put (cs' := #[x0, x1, x2, x3, c4]) 3 x3 (by simp)).put (cs' := #[x0, x1, x2, x3, x4]) 4 x4 (by simp))
theorem Has.off5 {w : World} {g b : Nat} {t : TypeId} {cs : Array Value} (h : Has w g t cs) (hne : g ≠ b) (x0 x1 x2 x3 x4 : Value) : Has (((((w.setCell ⟨b, 0, none⟩ x0).setCell ⟨b, 1, none⟩ x1).setCell ⟨b, 2, none⟩ x2).setCell ⟨b, 3, none⟩ x3).setCell ⟨b, 4, none⟩ x4) g t cs := (((((h.far (p := ⟨b, 0, none⟩) hne _).far (p := ⟨b, 1, none⟩) hne _).far (p := ⟨b, 2, none⟩) hne _).far (p := ⟨b, 3, none⟩) hne _).far (p := ⟨b, 4, none⟩) hne _)
theorem Only.put5 (w : World) (g : Nat) (x0 x1 x2 x3 x4 : Value) : Only (· = g) w (((((w.setCell ⟨g, 0, none⟩ x0).setCell ⟨g, 1, none⟩ x1).setCell ⟨g, 2, none⟩ x2).setCell ⟨g, 3, none⟩ x3).setCell ⟨g, 4, none⟩ x4) := ((((((Only.refl (· = g) w).setCell ⟨g, 0, none⟩ _ (fun _ => rfl)).setCell ⟨g, 1, none⟩ _ (fun _ => rfl)).setCell ⟨g, 2, none⟩ _ (fun _ => rfl)).setCell ⟨g, 3, none⟩ _ (fun _ => rfl)).setCell ⟨g, 4, none⟩ _ (fun _ => rfl))
theorem Has.facts5 {w : World} {g : Nat} {t : TypeId} {x0 x1 x2 x3 x4 : Value} (h : Has w g t #[x0, x1, x2, x3, x4]) :
    w.cell? ⟨g, 0, none⟩ = some x0 ∧ w.cell? ⟨g, 1, none⟩ = some x1 ∧ w.cell? ⟨g, 2, none⟩ = some x2 ∧ w.cell? ⟨g, 3, none⟩ = some x3 ∧ w.cell? ⟨g, 4, none⟩ = some x4 ∧ (∀ i, w.frozen? ⟨g, i, none⟩ = false) :=
  ⟨h.cell 0, h.cell 1, h.cell 2, h.cell 3, h.cell 4, h.free⟩

theorem Has.put6 {w : World} {g : Nat} {t : TypeId} {cs : Array Value} (h : Has w g t cs) (hs : cs.size = 6) (x0 x1 x2 x3 x4 x5 : Value) : Has ((((((w.setCell ⟨g, 0, none⟩ x0).setCell ⟨g, 1, none⟩ x1).setCell ⟨g, 2, none⟩ x2).setCell ⟨g, 3, none⟩ x3).setCell ⟨g, 4, none⟩ x4).setCell ⟨g, 5, none⟩ x5) g t #[x0, x1, x2, x3, x4, x5] := by
  obtain ⟨l⟩ := cs
  match l, hs with
  | [c0, c1, c2, c3, c4, c5], _ => exact ((((((h.put (cs' := #[x0, c1, c2, c3, c4, c5]) 0 x0 (by simp)).put (cs' := #[x0, x1, c2, c3, c4, c5]) 1 x1 (by simp)).put (cs' := #[x0, x1, x2, c3, c4, c5]) 2 x2 (by simp)).put (cs' := #[x0, x1, x2, x3, c4, c5]) 3 x3 (by simp)).put (cs' := #[x0, x1, x2, x3, x4, c5]) 4 x4 (by simp)).put (cs' := #[x0, x1, x2, x3, x4, x5]) 5 x5 (by simp))
theorem Has.off6 {w : World} {g b : Nat} {t : TypeId} {cs : Array Value} (h : Has w g t cs) (hne : g ≠ b) (x0 x1 x2 x3 x4 x5 : Value) : Has ((((((w.setCell ⟨b, 0, none⟩ x0).setCell ⟨b, 1, none⟩ x1).setCell ⟨b, 2, none⟩ x2).setCell ⟨b, 3, none⟩ x3).setCell ⟨b, 4, none⟩ x4).setCell ⟨b, 5, none⟩ x5) g t cs := ((((((h.far (p := ⟨b, 0, none⟩) hne _).far (p := ⟨b, 1, none⟩) hne _).far (p := ⟨b, 2, none⟩) hne _).far (p := ⟨b, 3, none⟩) hne _).far (p := ⟨b, 4, none⟩) hne _).far (p := ⟨b, 5, none⟩) hne _)
theorem Only.put6 (w : World) (g : Nat) (x0 x1 x2 x3 x4 x5 : Value) : Only (· = g) w ((((((w.setCell ⟨g, 0, none⟩ x0).setCell ⟨g, 1, none⟩ x1).setCell ⟨g, 2, none⟩ x2).setCell ⟨g, 3, none⟩ x3).setCell ⟨g, 4, none⟩ x4).setCell ⟨g, 5, none⟩ x5) := (((((((Only.refl (· = g) w).setCell ⟨g, 0, none⟩ _ (fun _ => rfl)).setCell ⟨g, 1, none⟩ _ (fun _ => rfl)).setCell ⟨g, 2, none⟩ _ (fun _ => rfl)).setCell ⟨g, 3, none⟩ _ (fun _ => rfl)).setCell ⟨g, 4, none⟩ _ (fun _ => rfl)).setCell ⟨g, 5, none⟩ _ (fun _ => rfl))
theorem Has.facts6 {w : World} {g : Nat} {t : TypeId} {x0 x1 x2 x3 x4 x5 : Value} (h : Has w g t #[x0, x1, x2, x3, x4, x5]) :
    w.cell? ⟨g, 0, none⟩ = some x0 ∧ w.cell? ⟨g, 1, none⟩ = some x1 ∧ w.cell? ⟨g, 2, none⟩ = some x2 ∧ w.cell? ⟨g, 3, none⟩ = some x3 ∧ w.cell? ⟨g, 4, none⟩ = some x4 ∧ w.cell? ⟨g, 5, none⟩ = some x5 ∧ (∀ i, w.frozen? ⟨g, i, none⟩ = false) :=
  ⟨h.cell 0, h.cell 1, h.cell 2, h.cell 3, h.cell 4, h.cell 5, h.free⟩

theorem Has.put8 {w : World} {g : Nat} {t : TypeId} {cs : Array Value} (h : Has w g t cs) (hs : cs.size = 8) (x0 x1 x2 x3 x4 x5 x6 x7 : Value) : Has ((((((((w.setCell ⟨g, 0, none⟩ x0).setCell ⟨g, 1, none⟩ x1).setCell ⟨g, 2, none⟩ x2).setCell ⟨g, 3, none⟩ x3).setCell ⟨g, 4, none⟩ x4).setCell ⟨g, 5, none⟩ x5).setCell ⟨g, 6, none⟩ x6).setCell ⟨g, 7, none⟩ x7) g t #[x0, x1, x2, x3, x4, x5, x6, x7] := by
  obtain ⟨l⟩ := cs
  match l, hs with
  | [c0, c1, c2, c3, c4, c5, c6, c7], _ => exact ((((((((h.put (cs' := #[x0, c1, c2, c3, c4, c5, c6, c7]) 0 x0 (by simp)).put (cs' := #[x0, x1, c2, c3, c4, c5, c6, c7]) 1 x1 (by simp)).put (cs' := #[x0, x1, x2, c3, c4, c5, c6, c7]) 2 x2 (by simp)).put (cs' := #[x0, x1, x2, x3, c4, c5, c6, c7]) 3 x3 (by simp)).put (cs' := #[x0, x1, x2, x3, x4, c5, c6, c7]) 4 x4 (by simp)).put (cs' := #[x0, x1, x2, x3, x4, x5, c6, c7]) 5 x5 (by simp)).put (cs' := #[x0, x1, x2, x3, x4, x5, x6, c7]) 6 x6 (by simp)).put (cs' := #[x0, x1, x2, x3, x4, x5, x6, x7]) 7 x7 (by simp))
theorem Has.off8 {w : World} {g b : Nat} {t : TypeId} {cs : Array Value} (h : Has w g t cs) (hne : g ≠ b) (x0 x1 x2 x3 x4 x5 x6 x7 : Value) : Has ((((((((w.setCell ⟨b, 0, none⟩ x0).setCell ⟨b, 1, none⟩ x1).setCell ⟨b, 2, none⟩ x2).setCell ⟨b, 3, none⟩ x3).setCell ⟨b, 4, none⟩ x4).setCell ⟨b, 5, none⟩ x5).setCell ⟨b, 6, none⟩ x6).setCell ⟨b, 7, none⟩ x7) g t cs := ((((((((h.far (p := ⟨b, 0, none⟩) hne _).far (p := ⟨b, 1, none⟩) hne _).far (p := ⟨b, 2, none⟩) hne _).far (p := ⟨b, 3, none⟩) hne _).far (p := ⟨b, 4, none⟩) hne _).far (p := ⟨b, 5, none⟩) hne _).far (p := ⟨b, 6, none⟩) hne _).far (p := ⟨b, 7, none⟩) hne _)
theorem Only.put8 (w : World) (g : Nat) (x0 x1 x2 x3 x4 x5 x6 x7 : Value) : Only (· = g) w ((((((((w.setCell ⟨g, 0, none⟩ x0).setCell ⟨g, 1, none⟩ x1).setCell ⟨g, 2, none⟩ x2).setCell ⟨g, 3, none⟩ x3).setCell ⟨g, 4, none⟩ x4).setCell ⟨g, 5, none⟩ x5).setCell ⟨g, 6, none⟩ x6).setCell ⟨g, 7, none⟩ x7) := (((((((((Only.refl (· = g) w).setCell ⟨g, 0, none⟩ _ (fun _ => rfl)).setCell ⟨g, 1, none⟩ _ (fun _ => rfl)).setCell ⟨g, 2, none⟩ _ (fun _ => rfl)).setCell ⟨g, 3, none⟩ _ (fun _ => rfl)).setCell ⟨g, 4, none⟩ _ (fun _ => rfl)).setCell ⟨g, 5, none⟩ _ (fun _ => rfl)).setCell ⟨g, 6, none⟩ _ (fun _ => rfl)).setCell ⟨g, 7, none⟩ _ (fun _ => rfl))
theorem Has.facts8 {w : World} {g : Nat} {t : TypeId} {x0 x1 x2 x3 x4 x5 x6 x7 : Value} (h : Has w g t #[x0, x1, x2, x3, x4, x5, x6, x7]) :
    w.cell? ⟨g, 0, none⟩ = some x0 ∧ w.cell? ⟨g, 1, none⟩ = some x1 ∧ w.cell? ⟨g, 2, none⟩ = some x2 ∧ w.cell? ⟨g, 3, none⟩ = some x3 ∧ w.cell? ⟨g, 4, none⟩ = some x4 ∧ w.cell? ⟨g, 5, none⟩ = some x5 ∧ w.cell? ⟨g, 6, none⟩ = some x6 ∧ w.cell? ⟨g, 7, none⟩ = some x7 ∧ (∀ i, w.frozen? ⟨g, i, none⟩ = false) :=
  ⟨h.cell 0, h.cell 1, h.cell 2, h.cell 3, h.cell 4, h.cell 5, h.cell 6, h.cell 7, h.free⟩
end Go.Proofs.YthagbbeppklpmaaDoor
