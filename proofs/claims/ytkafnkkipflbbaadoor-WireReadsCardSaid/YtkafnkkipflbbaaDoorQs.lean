/- The reference of layer 8: Raw, many, Blob, End. -/
import Derived.Test.YtkafnkkipflbbaaDoorQr
set_option linter.unusedSimpArgs false
set_option linter.unusedVariables false
namespace Go.Proofs.YtkafnkkipflbbaaDoor
open Go.RowKit

theorem Q8.many_e (q : Q8) (s : ByteArray) (most : Int) (size : Nat) (h : q.e ≠ 0) : q.many s most size = (q, 0) := by
  unfold Q8.many
  rw [Q8.number_had h, if_pos h]
theorem Q8.many_short (q : Q8) (s : ByteArray) (most : Int) (size : Nat) (h : q.e = 0) (h2 : s.size < q.at_ + 4) : q.many s most size = (⟨q.at_, 12⟩, 0) := by
  unfold Q8.many
  rw [Q8.number_short h h2, if_pos (by simp)]
theorem Q8.many_ok (q : Q8) (s : ByteArray) (most : Int) (size : Nat) (h : q.e = 0) (h2 : q.at_ + 4 ≤ s.size) : q.many s most size =
    if most < num s q.at_ 4 then (⟨q.at_, 2⟩, 0) else if s.size < q.at_ + 4 + (num s q.at_ 4).toNat * size then (⟨q.at_, 12⟩, 0) else (⟨q.at_ + 4, 0⟩, (num s q.at_ 4).toNat) := by
  unfold Q8.many
  rw [Q8.number_ok h h2, if_neg (by simp)]
theorem Q8.many_zero (q : Q8) (s : ByteArray) (most : Int) (h : q.e = 0) (h2 : q.at_ + 4 ≤ s.size) : q.many s most 0 = if most < num s q.at_ 4 then (⟨q.at_, 2⟩, 0) else (⟨q.at_ + 4, 0⟩, (num s q.at_ 4).toNat) := by
  rw [q.many_ok s most 0 h h2, Nat.mul_zero, if_neg (show ¬ s.size < q.at_ + 4 + 0 by omega)]
theorem Q8.many_at (q : Q8) (s : ByteArray) (most : Int) (size : Nat) (h : q.at_ ≤ s.size) : (q.many s most size).1.at_ ≤ s.size := by
  by_cases he : q.e = 0
  · by_cases h4 : q.at_ + 4 ≤ s.size
    · rw [q.many_ok s most size he h4]
      split
      · exact h
      · split
        · exact h
        · exact h4
    · rw [q.many_short s most size he (by omega)]
      exact h
  · rw [q.many_e s most size he]
    exact h
/-- Counted things that lack, or not. -/
theorem Q8.many_split (q : Q8) (s : ByteArray) (most : Int) (size : Nat) : q.many s most size =
    if (q.many s most 0).1.e ≠ 0 then q.many s most 0 else if s.size < (q.many s most 0).1.at_ + (q.many s most 0).2 * size then (⟨q.at_, 12⟩, 0) else q.many s most 0 := by
  by_cases he : q.e = 0
  · by_cases h4 : q.at_ + 4 ≤ s.size
    · rw [q.many_ok s most size he h4, q.many_zero s most he h4]
      by_cases hm : most < num s q.at_ 4
      · simp [hm]
      · simp [hm]
    · rw [q.many_short s most size he (by omega), q.many_short s most 0 he (by omega)]
      simp
  · rw [q.many_e s most size he, q.many_e s most 0 he, if_pos he]
theorem Q8.many_le (q : Q8) (s : ByteArray) (most : Int) (size : Nat) (hm : 0 ≤ most) : ((q.many s most size).2 : Int) ≤ most := by
  by_cases he : q.e = 0
  · by_cases h4 : q.at_ + 4 ≤ s.size
    · rw [q.many_ok s most size he h4]
      split
      · exact hm
      · split
        · exact hm
        · rename_i h _
          show (((num s q.at_ 4).toNat : Nat) : Int) ≤ most
          omega
    · rw [q.many_short s most size he (by omega)]
      exact hm
  · rw [q.many_e s most size he]
    exact hm
end Go.Proofs.YtkafnkkipflbbaaDoor
