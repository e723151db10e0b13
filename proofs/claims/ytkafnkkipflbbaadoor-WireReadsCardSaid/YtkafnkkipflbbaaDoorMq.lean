/- Plain: what a reader answers: how many bytes are read, and the first fault's number. -/
import Derived.Test.YtkafnkkipflbbaaDoorRu
import Derived.Test.YtkafnkkipflbbaaDoorBv
set_option linter.unusedSimpArgs false
set_option linter.unusedVariables false
namespace Go.Proofs.YtkafnkkipflbbaaDoor
open Go.RowKit Go.Lib

structure Q8 where
  at_ : Nat
  e : Int
def Q8.fail (q : Q8) (c : Int) : Q8 := if q.e = 0 then ⟨q.at_, c⟩ else q
def Q8.take (q : Q8) (s : ByteArray) (n : Nat) : Q8 × ByteArray :=
  if q.e ≠ 0 then (q, ⟨#[]⟩) else if s.size < q.at_ + n then (⟨q.at_, 12⟩, ⟨#[]⟩) else (⟨q.at_ + n, 0⟩, s.extract q.at_ (q.at_ + n))
def Q8.number (q : Q8) (s : ByteArray) (n : Nat) : Q8 × Int := ((q.take s n).1, beV (ofStr (q.take s n).2))
def Q8.raw (q : Q8) (s : ByteArray) (n : Int) : Q8 × ByteArray := if n < 0 ∨ 65536 < n then (q.fail 1, ⟨#[]⟩) else q.take s n.toNat
/-- How many things follow, of at least so many bytes each, at most so many. -/
def Q8.many (q : Q8) (s : ByteArray) (most : Int) (size : Nat) : Q8 × Nat :=
  if (q.number s 4).1.e ≠ 0 then ((q.number s 4).1, 0) else if most < (q.number s 4).2 then (⟨q.at_, 2⟩, 0)
  else if s.size < (q.number s 4).1.at_ + (q.number s 4).2.toNat * size then (⟨q.at_, 12⟩, 0) else ((q.number s 4).1, (q.number s 4).2.toNat)
def Q8.blob (q : Q8) (s : ByteArray) (most : Int) : Q8 × ByteArray := (q.many s (min most 65536) 1).1.take s (q.many s (min most 65536) 1).2
def wordsAt (s : ByteArray) (a size n : Nat) : List Int := (List.range n).map fun i => num s (a + i * size) size
/-- Behind how many there are. -/
def Q8.wordsOf (q y : Q8) (s : ByteArray) (width size n : Nat) : Q8 × List Int :=
  if y.e ≠ 0 then (y, []) else if (wordsAt s y.at_ size n).all (fun x => decide (x < 2 ^ width)) then (⟨y.at_ + n * size, 0⟩, wordsAt s y.at_ size n) else (⟨q.at_, 13⟩, [])
def Q8.words (q : Q8) (s : ByteArray) (width most : Int) : Q8 × List Int :=
  if width < 1 ∨ 64 < width then (q.fail 11, []) else
    q.wordsOf (q.many s (min most 65536) ((width.toNat + 7) / 8)).1 s width.toNat ((width.toNat + 7) / 8) (q.many s (min most 65536) ((width.toNat + 7) / 8)).2
/-- Bits of bytes; none behind the last one. -/
def bitsOf (n : Nat) (t : ByteArray) : Option (List Bool) :=
  if (List.range (8 * t.size)).all (fun i => decide (i < n) || !byteBit t i) then some ((List.range n).map (byteBit t)) else none
def Q8.bitsOf (q z : Q8) (t : ByteArray) (n : Nat) : Q8 × List Bool :=
  if z.e ≠ 0 then (⟨q.at_, z.e⟩, []) else match Go.Proofs.YtkafnkkipflbbaaDoor.bitsOf n t with
    | some l => (z, l)
    | none => (⟨q.at_, 13⟩, [])
def Q8.bits (q : Q8) (s : ByteArray) (most : Int) : Q8 × List Bool :=
  q.bitsOf ((q.many s (min most 524288) 0).1.take s (((q.many s (min most 524288) 0).2 + 7) / 8)).1 ((q.many s (min most 524288) 0).1.take s (((q.many s (min most 524288) 0).2 + 7) / 8)).2 (q.many s (min most 524288) 0).2
def Q8.fin (q : Q8) (s : ByteArray) : Q8 := if q.at_ < s.size then q.fail 14 else q

theorem Q8.take_at (q : Q8) (s : ByteArray) (n : Nat) (h : q.at_ ≤ s.size) : (q.take s n).1.at_ ≤ s.size := by
  unfold Q8.take
  split
  · exact h
  · split
    · exact h
    · show q.at_ + n ≤ s.size; omega
theorem Q8.take_e (q : Q8) (s : ByteArray) (n : Nat) (h : 0 ≤ q.e) : 0 ≤ (q.take s n).1.e := by
  unfold Q8.take
  split
  · exact h
  · split
    · show (0 : Int) ≤ 12; decide
    · show (0 : Int) ≤ 0; decide
theorem Q8.take_size (q : Q8) (s : ByteArray) (n : Nat) : (q.take s n).2.size ≤ n := by
  unfold Q8.take
  split
  · simp [ByteArray.size]
  · split
    · simp [ByteArray.size]
    · simp; omega
theorem Q8.number_bound (q : Q8) (s : ByteArray) (n : Nat) : 0 ≤ (q.number s n).2 ∧ (q.number s n).2 < 256 ^ n := by
  have hl := q.take_size s n
  have hb := beV_bound (ofStr (q.take s n).2) (ofStr_range _)
  rw [ofStr_length] at hb
  refine ⟨hb.1, Int.lt_of_lt_of_le hb.2 ?_⟩
  have h2 := Int.ofNat_le.2 (Nat.pow_le_pow_right (show 0 < 256 by decide) hl)
  rw [Int.natCast_pow, Int.natCast_pow] at h2
  exact h2
theorem Q8.number_had {q : Q8} {s : ByteArray} {n : Nat} (h : q.e ≠ 0) : q.number s n = (q, 0) := by
  unfold Q8.number Q8.take
  rw [if_pos h]
  rfl
theorem Q8.take_had {q : Q8} {s : ByteArray} {n : Nat} (h : q.e ≠ 0) : q.take s n = (q, ⟨#[]⟩) := by
  unfold Q8.take
  rw [if_pos h]
theorem Q8.take_ok {q : Q8} {s : ByteArray} {n : Nat} (h : q.e = 0) (h2 : q.at_ + n ≤ s.size) : q.take s n = (⟨q.at_ + n, 0⟩, s.extract q.at_ (q.at_ + n)) := by
  unfold Q8.take
  rw [if_neg (by simpa using h), if_neg (by omega)]
theorem Q8.take_short {q : Q8} {s : ByteArray} {n : Nat} (h : q.e = 0) (h2 : s.size < q.at_ + n) : q.take s n = (⟨q.at_, 12⟩, ⟨#[]⟩) := by
  unfold Q8.take
  rw [if_neg (by simpa using h), if_pos h2]
theorem Q8.number_ok {q : Q8} {s : ByteArray} {n : Nat} (h : q.e = 0) (h2 : q.at_ + n ≤ s.size) : q.number s n = (⟨q.at_ + n, 0⟩, num s q.at_ n) := by
  unfold Q8.number
  rw [Q8.take_ok h h2]
  rfl
theorem Q8.number_short {q : Q8} {s : ByteArray} {n : Nat} (h : q.e = 0) (h2 : s.size < q.at_ + n) : q.number s n = (⟨q.at_, 12⟩, 0) := by
  unfold Q8.number
  rw [Q8.take_short h h2]
  rfl
end Go.Proofs.YtkafnkkipflbbaaDoor
