/- The law WireReads: one reading. -/
import Derived.Test.YtkafnkkipflbbaaDoorRb
import Derived.Test.YtkafnkkipflbbaaDoorQw
import Derived.Test.YtkafnkkipflbbaaDoorWa
import Derived.Test.YtkafnkkipflbbaaDoorCc
import Derived.Deep.DeepCutAuto
import Derived.Deep.CutBlock
set_option linter.unusedSimpArgs false
set_option linter.unusedVariables false
namespace Go.Proofs.YtkafnkkipflbbaaDoor
open Go.RowKit Go.Lib

abbrev QA (w : World) (b : Nat) (s : ByteArray) (q : Q8) : Prop := Has w b 38 #[.string s, .int .i64 q.at_, .int .i64 q.e]
theorem qa_facts {w : World} {b : Nat} {s : ByteArray} {q : Q8} (h : QA w b s q) : w.cell? ⟨b, 0, none⟩ = some (.string s) ∧ w.cell? ⟨b, 1, none⟩ = some (.int .i64 q.at_) ∧ w.cell? ⟨b, 2, none⟩ = some (.int .i64 q.e) := ⟨h.cell 0, h.cell 1, h.cell 2⟩
theorem RQ.put3 {W : World} {p b : Nat} {s : ByteArray} {q : Q8} {cs : Array Value} (h : RQ W p s q) (hb : Has W b 38 cs) (x0 x1 x2 : Value) : RQ (((W.setCell ⟨b, 0, none⟩ x0).setCell ⟨b, 1, none⟩ x1).setCell ⟨b, 2, none⟩ x2) p s q :=
  h.only (Only.put3 W b x0 x1 x2) (h.apart hb (by decide)) (fun k cs hk e => by subst e; exact hk.apart hb (by decide) rfl)
/-- fault.Code of the reader's error. -/
theorem rq_code (w : World) (p : Nat) (s : ByteArray) (q : Q8) (h : RQ w p s q) : Calls Tryd.prog 8 #[.pointer (some ⟨p, 0, none⟩)] w fun x w' => ∃ v, x = .returned v ∧ EndV w v q.e ∧ w = w' := by
  by_cases he : q.e = 0
  · refine (rq_err0 w p s q he h).mono ?_
    rintro x w' ⟨rfl, rfl⟩
    exact ⟨_, rfl, .inl ⟨he, rfl⟩, rfl⟩
  · refine (rq_err w p s q he h).mono ?_
    rintro x w' ⟨b, l, rfl, h2, rfl⟩
    exact ⟨_, rfl, .inr ⟨b, l, he, rfl, h2⟩, rfl⟩
theorem EndV.only {w w' : World} {v : Value} {c : Int} (h : EndV w v c) (o : Only (fun _ => False) w w') : EndV w' v c := by
  rcases h with h | ⟨b, l, h1, h2, h3⟩
  · exact .inl h
  · exact .inr ⟨b, l, h1, h2, h3.only o (fun _ _ _ f => f)⟩
theorem code_any (w : World) (v : Value) (c : Int) (h : EndV w v c) (hE : Et w) : Calls Tryd.prog 11 #[v] w fun e w' => e = .returned (.int .i64 c) ∧ Only (fun _ => False) w w' := by
  rcases h with ⟨rfl, rfl⟩ | ⟨b, l, h1, rfl, h3⟩
  · exact code_nil w
  · exact code_chain w b l c h3 hE

theorem words_len (q : Q8) (s : ByteArray) (width most : Int) : (q.words s width most).2.length ≤ 65536 := by
  unfold Q8.words
  split
  · exact Nat.zero_le _
  · unfold Q8.wordsOf
    have h := q.many_max s (min most 65536) ((width.toNat + 7) / 8)
    have h2 : min most 65536 ≤ 65536 := Int.min_le_right _ _
    split
    · exact Nat.zero_le _
    · split
      · rw [wordsAt_length]; omega
      · exact Nat.zero_le _
theorem bits_len (q : Q8) (s : ByteArray) (most : Int) : (q.bits s most).2.length ≤ 524288 := by
  unfold Q8.bits Q8.bitsOf
  have h := q.many_max s (min most 524288) 0
  have h2 : min most 524288 ≤ 524288 := Int.min_le_right _ _
  split
  · exact Nat.zero_le _
  · cases hb : Go.Proofs.YtkafnkkipflbbaaDoor.bitsOf (q.many s (min most 524288) 0).2 ((q.many s (min most 524288) 0).1.take s (((q.many s (min most 524288) 0).2 + 7) / 8)).2 with
    | none => exact Nat.zero_le _
    | some l =>
      have h3 := (bitsOf_some hb).1
      show l.length ≤ 524288
      omega
theorem range_lf (l : List Bool) : (List.range l.length).map (fun i => Value.bool (lf l i)) = bcellsB l := by
  apply List.ext_getElem?
  intro i
  by_cases hi : i < l.length
  · simp [bcellsB, lf, hi, List.getD_eq_getElem?_getD, List.getElem?_eq_getElem hi]
  · rw [List.getElem?_eq_none (by simp; omega), List.getElem?_eq_none (by simp [bcellsB]; omega)]
theorem nums_eq2 (w : World) (a b : Value) (l : List Int) (ha : Reads w a (ucells l)) (hb : Reads w b (ucells l)) (hl : l.length ≤ 4611686018427387904) : Calls Tryd.prog 29 #[a, b] w fun x w' => x = .returned (.bool true) ∧ Only (fun _ => False) w w' := nums_eq w a b l ha hb hl
end Go.Proofs.YtkafnkkipflbbaaDoor
