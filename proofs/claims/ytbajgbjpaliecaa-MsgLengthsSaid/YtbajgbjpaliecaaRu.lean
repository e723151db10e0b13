/- wire.Reader: U8, U32, U64. -/
import Derived.Test.YtbajgbjpaliecaaRn
set_option linter.unusedSimpArgs false
set_option linter.unusedVariables false
namespace Go.Proofs.Ytbajgbjpaliecaa
open Go.RowKit Go.Lib

theorem number_bound (r : Rs8) (s f : ByteArray) (n : Nat) : 0 ≤ (r.number s f n).2 ∧ (r.number s f n).2 < 256 ^ n := by
  have hl : (r.take s f n).2.size ≤ n := by
    unfold Rs8.take
    split
    · simp [ByteArray.size]
    · split
      · simp [ByteArray.size]
      · simp; omega
  have hb := beV_bound (ofStr (r.take s f n).2) (ofStr_range _)
  rw [ofStr_length] at hb
  refine ⟨hb.1, Int.lt_of_lt_of_le hb.2 ?_⟩
  have h2 := Int.ofNat_le.2 (Nat.pow_le_pow_right (show 0 < 256 by decide) hl)
  rw [Int.natCast_pow, Int.natCast_pow] at h2
  exact h2

theorem ru8_any (w : World) (p : Nat) (s f : ByteArray) (r : Rs8) (hs : s.size ≤ 140737488351232) (h : RS w p s r) : Calls Try.prog 33 #[.pointer (some ⟨p, 0, none⟩), .string f] w fun x w' =>
    x = .returned (.int .u8 (r.number s f 1).2) ∧ RS w' p s (r.number s f 1).1 ∧ Only (· = p) w w' := by
  have hb := number_bound r s f 1
  have hn := number_any w p s f r 1 hs (by omega) h
  obtain ⟨hb0, hb1⟩ := hb
  have hb2 : (r.number s f 1).2 ≤ 255 := by
    have : (256 : Int) ^ 1 = 256 := by decide
    omega
  clear hb1
  generalize (r.number s f 1).2 = x at *
  generalize (r.number s f 1).1 = r' at *
  have HN := Lib.hid hn
  clear hn h
  go_enter Try.func33, Try.ntmps33
  go_wp2_with fail
  refine HN.out.mono ?_
  rintro e w1 ⟨rfl, h1, o1⟩
  go_wp2_with fail
  go_ret
  exact ⟨rfl, h1, o1⟩
theorem ru32_any (w : World) (p : Nat) (s f : ByteArray) (r : Rs8) (hs : s.size ≤ 140737488351232) (h : RS w p s r) : Calls Try.prog 51 #[.pointer (some ⟨p, 0, none⟩), .string f] w fun x w' =>
    x = .returned (.int .u32 (r.number s f 4).2) ∧ RS w' p s (r.number s f 4).1 ∧ Only (· = p) w w' := by
  have hb := number_bound r s f 4
  have hn := number_any w p s f r 4 hs (by omega) h
  obtain ⟨hb0, hb1⟩ := hb
  have hb2 : (r.number s f 4).2 ≤ 4294967295 := by
    have : (256 : Int) ^ 4 = 4294967296 := by decide
    omega
  clear hb1
  generalize (r.number s f 4).2 = x at *
  generalize (r.number s f 4).1 = r' at *
  have HN := Lib.hid hn
  clear hn h
  go_enter Try.func51, Try.ntmps51
  go_wp2_with fail
  refine HN.out.mono ?_
  rintro e w1 ⟨rfl, h1, o1⟩
  go_wp2_with fail
  go_ret
  exact ⟨rfl, h1, o1⟩
theorem ru64_any (w : World) (p : Nat) (s f : ByteArray) (r : Rs8) (hs : s.size ≤ 140737488351232) (h : RS w p s r) : Calls Try.prog 53 #[.pointer (some ⟨p, 0, none⟩), .string f] w fun x w' =>
    x = .returned (.int .u64 (r.number s f 8).2) ∧ RS w' p s (r.number s f 8).1 ∧ Only (· = p) w w' := by
  have hb := number_bound r s f 8
  have hn := number_any w p s f r 8 hs (by omega) h
  obtain ⟨hb0, hb1⟩ := hb
  have hb2 : (r.number s f 8).2 ≤ 18446744073709551615 := by
    have : (256 : Int) ^ 8 = 18446744073709551616 := by decide
    omega
  clear hb1
  generalize (r.number s f 8).2 = x at *
  generalize (r.number s f 8).1 = r' at *
  have HN := Lib.hid hn
  clear hn h
  go_enter Try.func53, Try.ntmps53
  go_wp2_with fail
  refine HN.out.mono ?_
  rintro e w1 ⟨rfl, h1, o1⟩
  go_wp2_with fail
  go_ret
  exact ⟨rfl, h1, o1⟩

def num (s : ByteArray) (i n : Nat) : Int := beV (ofStr (s.extract i (i + n)))

theorem num_ok {s f : ByteArray} {a n : Nat} (h : a + n ≤ s.size) : Rs8.number ⟨a, none⟩ s f n = (⟨a + n, none⟩, num s a n) := by
  simp only [Rs8.number, Rs8.take]
  rw [if_neg (by omega)]
  rfl
theorem num_short {s f : ByteArray} {a n : Nat} (h : s.size < a + n) : Rs8.number ⟨a, none⟩ s f n = (⟨a, some ([wireName, f], 12)⟩, 0) := by
  simp only [Rs8.number, Rs8.take]
  rw [if_pos h]
  rfl
theorem num_had {s f : ByteArray} {a n : Nat} {x : List ByteArray × Int} : Rs8.number ⟨a, some x⟩ s f n = (⟨a, some x⟩, 0) := rfl

end Go.Proofs.Ytbajgbjpaliecaa
