/- Plain: how long a message is hangs on lengths alone. -/
import Derived.Test.YtbajgbjpaliecaaMp6
set_option linter.unusedSimpArgs false
set_option linter.unusedVariables false
namespace Go.Proofs.Ytbajgbjpaliecaa
open Go.RowKit

theorem rev_len {α : Type} (f : α → List Int) : ∀ l : List α, (l.reverse.flatMap f).length = (l.flatMap f).length
  | [] => rfl
  | a :: l => by
    have := rev_len f l
    simp only [List.reverse_cons, List.flatMap_append, List.flatMap_cons, List.flatMap_nil, List.append_nil, List.length_append]
    omega
/-- A message with other sums, seeds, words, and its shares turned about. -/
def Mg.turn (m : Mg) (d ws : List Int) : Mg := { m with dig := d, seed := d, words := ws, shares := m.shares.reverse }
theorem wB_len_eq (width : Int) (a b : List Int) (h : a.length = b.length) : (wB width a).length = (wB width b).length := by
  unfold wB
  rw [List.length_append, List.length_append, beB_length, beB_length, wordsB_length, wordsB_length, h]
theorem turn_len {m : Mg} {d ws : List Int} (ok : m.Ok) (hd : d.length = 32) (hw : ws.length = m.words.length) (hc : m.check = 0) : (m.turn d ws).body.length = m.body.length := by
  have hk : m.kind = 1 ∨ m.kind = 2 ∨ m.kind = 3 ∨ m.kind = 4 ∨ m.kind = 5 ∨ m.kind = 6 ∨ m.kind = 7 ∨ m.kind = 8 ∨ m.kind = 9 ∨ m.kind = 10 ∨ m.kind = 11 ∨ m.kind = 12 ∨ m.kind = 13 := by
    have := good_kind hc
    omega
  have e : (m.turn d ws).kind = m.kind := rfl
  rcases hk with hk | hk | hk | hk | hk | hk | hk | hk | hk | hk | hk | hk | hk
  · rw [body1 hk, body1 (m := m.turn d ws) hk]; rfl
  · rw [body2 hk, body2 (m := m.turn d ws) hk]; rfl
  · have e3 : (m.turn d ws).body = beB m.batch 4 ++ beB m.chunk 4 ++ [m.width] ++ (beB ws.length 4 ++ wordsB ws ((m.width + 7) / 8).toNat) := body3 (m := m.turn d ws) hk
    rw [e3, body3 hk]
    simp only [List.length_append, beB_length, wordsB_length, hw]
  · rw [body4 hk, body4 (m := m.turn d ws) hk]
    simp only [List.length_append, beB_length, ok.dig]
    show 4 + d.length = _
    omega
  · rw [body5 hk, body5 (m := m.turn d ws) hk]
    simp only [List.length_append, beB_length, ok.seed]
    show 4 + d.length = _
    omega
  · rw [body6 hk, body6 (m := m.turn d ws) hk]
    simp only [List.length_append, beB_length]
    show 4 + (m.c.nums.length + 4 + (m.shares.reverse.flatMap (shB m.c)).length) = _
    rw [rev_len]
  · rw [body7 hk, body7 (m := m.turn d ws) hk]; rfl
  · rw [body8 hk, body8 (m := m.turn d ws) hk]; rfl
  · rw [body9 hk, body9 (m := m.turn d ws) hk]; rfl
  · rw [body10 hk, body10 (m := m.turn d ws) hk]; rfl
  · rw [body11 hk, body11 (m := m.turn d ws) hk]; rfl
  · rw [body12 hk, body12 (m := m.turn d ws) hk]; rfl
  · rw [body13 hk, body13 (m := m.turn d ws) hk]; rfl
end Go.Proofs.Ytbajgbjpaliecaa
