/- Plain: bits packed in words of 64. -/
import Derived.Laws.BitsLemmas
set_option linter.unusedSimpArgs false
set_option linter.unusedVariables false
namespace Go.Proofs.YthkgjhjfgoglhaaDoor

/-- The first n bits of f as a number, the first the lowest. -/
def nb (f : Nat → Bool) : Nat → Nat
  | 0 => 0
  | n + 1 => nb f n + if f n then 2 ^ n else 0
theorem nb_lt (f : Nat → Bool) : ∀ n, nb f n < 2 ^ n
  | 0 => by simp [nb]
  | n + 1 => by
    have := nb_lt f n
    rw [nb, Nat.pow_succ]
    split <;> omega
theorem nb_testBit (f : Nat → Bool) : ∀ n j, (nb f n).testBit j = (decide (j < n) && f j)
  | 0, j => by simp [nb]
  | n + 1, j => by
    have h := nb_lt f n
    have ih := nb_testBit f n j
    rw [nb]
    by_cases hf : f n = true
    · rw [if_pos hf, Nat.add_comm]
      rcases Nat.lt_trichotomy j n with hj | rfl | hj
      · rw [Nat.testBit_two_pow_add_gt hj, ih]
        simp [hj, Nat.lt_succ_of_lt hj]
      · rw [Nat.testBit_two_pow_add_eq, ih]
        simp [hf]
      · rw [Nat.testBit_lt_two_pow (by have h2 : 2 ^ (n + 1) ≤ 2 ^ j := Nat.pow_le_pow_right (by decide) hj; rw [Nat.pow_succ] at h2; omega)]
        have : ¬ j < n + 1 := by omega
        simp [this]
    · rw [if_neg hf, Nat.add_zero, ih]
      by_cases hj : j < n
      · have : j < n + 1 := by omega
        simp [hj, this]
      · by_cases hjn : j = n
        · subst hjn
          simp at hf
          simp [hf]
        · have : ¬ j < n + 1 := by omega
          simp [hj, this]

/-- The k-th word. -/
def wd (f : Nat → Bool) (k : Nat) : Nat := nb (fun j => f (64 * k + j)) 64
theorem wd_lt (f : Nat → Bool) (k : Nat) : wd f k < 2 ^ 64 := nb_lt _ 64
theorem wd_testBit (f : Nat → Bool) (k j : Nat) : (wd f k).testBit j = (decide (j < 64) && f (64 * k + j)) := nb_testBit _ 64 j
theorem wd_eq {x k : Nat} {f : Nat → Bool} (hx : x < 2 ^ 64) (h : ∀ j, j < 64 → x.testBit j = f (64 * k + j)) : x = wd f k := by
  apply Nat.eq_of_testBit_eq
  intro j
  rw [wd_testBit]
  by_cases hj : j < 64
  · simp [hj, h j hj]
  · rw [Nat.testBit_lt_two_pow (Nat.lt_of_lt_of_le hx (Nat.pow_le_pow_right (by decide) (by omega)))]
    simp [hj]
theorem wd_congr {f g : Nat → Bool} {k : Nat} (h : ∀ j, j < 64 → f (64 * k + j) = g (64 * k + j)) : wd f k = wd g k :=
  wd_eq (wd_lt f k) fun j hj => by rw [wd_testBit]; simp [hj, h j hj]
theorem wd_zero {f : Nat → Bool} {k : Nat} (h : ∀ j, j < 64 → f (64 * k + j) = false) : wd f k = 0 :=
  (wd_eq (by decide) fun j hj => by rw [h j hj]; simp).symm

theorem wraps_u64 (n : Int) (h₀ : 0 ≤ n) (h₁ : n < 2 ^ 64) : IntKind.u64.wrap n = n := by
  simp only [IntKind.wrap, IntKind.bits, IntKind.signed]
  simp
  omega
theorem u64_and (a b : Nat) (ha : a < 2 ^ 64) (hb : b < 2 ^ 64) : bits .and .u64 a b = ((a &&& b : Nat) : Int) := (bits_nat .u64 64 (by decide) wraps_u64 a b ha hb).1
theorem u64_or (a b : Nat) (ha : a < 2 ^ 64) (hb : b < 2 ^ 64) : bits .or .u64 a b = ((a ||| b : Nat) : Int) := (bits_nat .u64 64 (by decide) wraps_u64 a b ha hb).2
theorem u64_xor (a b : Nat) (ha : a < 2 ^ 64) (hb : b < 2 ^ 64) : bits .xor .u64 a b = ((a ^^^ b : Nat) : Int) := by
  have ha' : a % 2 ^ IntKind.u64.bits = a := Nat.mod_eq_of_lt ha
  have hb' : b % 2 ^ IntKind.u64.bits = b := Nat.mod_eq_of_lt hb
  simp only [bits, BitVec.ofInt_natCast, BitVec.toNat_xor, BitVec.toNat_ofNat, ha', hb']
  exact wraps_u64 _ (Int.natCast_nonneg _) (by exact_mod_cast Nat.xor_lt_two_pow ha hb)
theorem u64_and1 (x : Int) (h₀ : 0 ≤ x) (h₁ : x < 2 ^ 64) : bits .and .u64 x 1 = x % 2 := bits_mask .u64 64 (by decide) wraps_u64 1 (by decide) x h₀ h₁

theorem wd_xor (f g : Nat → Bool) (k : Nat) : wd f k ^^^ wd g k = wd (fun i => f i ^^ g i) k :=
  wd_eq (Nat.xor_lt_two_pow (wd_lt f k) (wd_lt g k)) fun j hj => by rw [Nat.testBit_xor, wd_testBit, wd_testBit]; simp [hj]
theorem wd_and (f g : Nat → Bool) (k : Nat) : wd f k &&& wd g k = wd (fun i => f i && g i) k :=
  wd_eq (Nat.and_lt_two_pow _ (wd_lt g k)) fun j hj => by rw [Nat.testBit_and, wd_testBit, wd_testBit]; simp [hj]
/-- One bit out of its word. -/
theorem wd_get (f : Nat → Bool) (i : Nat) : (wd f (i / 64) / 2 ^ (i % 64) % 2 = 1) = (f i = true) := by
  have h := wd_testBit f (i / 64) (i % 64)
  have h2 : 64 * (i / 64) + i % 64 = i := by omega
  rw [h2, decide_eq_true (by omega : i % 64 < 64), Bool.true_and] at h
  rw [Nat.testBit_eq_decide_div_mod_eq] at h
  rw [← h]
  simp
/-- The first m of f. -/
def upTo (f : Nat → Bool) (m : Nat) : Nat → Bool := fun i => decide (i < m) && f i
/-- One bit more. -/
theorem wd_set (f : Nat → Bool) (i : Nat) (h : f i = true) : wd (upTo f i) (i / 64) ||| 2 ^ (i % 64) = wd (upTo f (i + 1)) (i / 64) := by
  refine wd_eq (Nat.or_lt_two_pow (wd_lt _ _) (Nat.pow_lt_pow_right (by decide) (by omega))) fun j hj => ?_
  rw [Nat.testBit_or, wd_testBit, Nat.testBit_two_pow]
  simp only [upTo, hj, decide_true, Bool.true_and]
  by_cases e : i % 64 = j
  · have : 64 * (i / 64) + j = i := by omega
    rw [this]
    simp [e, h]
  · have h1 : (64 * (i / 64) + j < i + 1) = (64 * (i / 64) + j < i) := by apply propext; omega
    simp [e, h1]
theorem wd_skip (f : Nat → Bool) (i k : Nat) (h : f i = false ∨ k ≠ i / 64) : wd (upTo f (i + 1)) k = wd (upTo f i) k := by
  refine wd_congr fun j hj => ?_
  simp only [upTo]
  by_cases e : 64 * k + j = i
  · rcases h with h | h
    · rw [e, h]; simp
    · omega
  · have h1 : (64 * k + j < i + 1) = (64 * k + j < i) := by apply propext; omega
    simp [h1]
/-- The bits of bytes, the lower ones first. -/
def byteBit (s : ByteArray) (i : Nat) : Bool := (s.data.toList.getD (i / 8) 0).toNat.testBit (i % 8)
theorem wd_byte (s : ByteArray) (i : Nat) (hi : i < s.size) : wd (upTo (byteBit s) (8 * i)) (i / 8) ||| (s[i].toNat * 2 ^ (8 * (i % 8))) = wd (upTo (byteBit s) (8 * (i + 1))) (i / 8) := by
  have hb := s[i].toNat_lt
  have hm : 8 * (i % 8) ≤ 56 := by omega
  have hp : s[i].toNat * 2 ^ (8 * (i % 8)) < 2 ^ 64 := by
    have h1 : 2 ^ (8 * (i % 8)) ≤ 2 ^ 56 := Nat.pow_le_pow_right (by decide) hm
    have h2 : s[i].toNat * 2 ^ (8 * (i % 8)) ≤ 255 * 2 ^ 56 := Nat.mul_le_mul (by omega) h1
    omega
  refine wd_eq (Nat.or_lt_two_pow (wd_lt _ _) hp) fun j hj => ?_
  rw [Nat.testBit_or, wd_testBit, Nat.mul_comm s[i].toNat, Nat.testBit_two_pow_mul]
  simp only [upTo, hj, decide_true, Bool.true_and]
  have hg : s.data.toList.getD i 0 = s[i] := by
    rw [List.getD_eq_getElem?_getD, List.getElem?_eq_getElem (by simpa using hi)]
    rfl
  by_cases e : (64 * (i / 8) + j) / 8 = i
  · have h1 : ¬ 64 * (i / 8) + j < 8 * i := by omega
    have h2 : 64 * (i / 8) + j < 8 * (i + 1) := by omega
    have h3 : j ≥ 8 * (i % 8) := by omega
    have h4 : j - 8 * (i % 8) = (64 * (i / 8) + j) % 8 := by omega
    simp only [h1, h2, h3, decide_false, decide_true, Bool.false_and, Bool.true_and, Bool.false_or, byteBit, e, hg, h4]
  · by_cases h1 : 64 * (i / 8) + j < 8 * i
    · have h2 : 64 * (i / 8) + j < 8 * (i + 1) := by omega
      have h3 : ¬ j ≥ 8 * (i % 8) := by omega
      simp [h1, h2, h3]
    · have h2 : ¬ 64 * (i / 8) + j < 8 * (i + 1) := by omega
      have h3 : 8 ≤ j - 8 * (i % 8) := by omega
      have h4 : s[i].toNat.testBit (j - 8 * (i % 8)) = false := Nat.testBit_lt_two_pow (Nat.lt_of_lt_of_le hb (Nat.pow_le_pow_right (n := 2) (by decide) h3))
      simp [h1, h2, h4]
theorem wd_byte_off (s : ByteArray) (i k : Nat) (h : k ≠ i / 8) : wd (upTo (byteBit s) (8 * (i + 1))) k = wd (upTo (byteBit s) (8 * i)) k := by
  refine wd_congr fun j hj => ?_
  simp only [upTo]
  have h1 : (64 * k + j < 8 * (i + 1)) = (64 * k + j < 8 * i) := by apply propext; omega
  simp [h1]
/-- How many words bits take, and these. -/
def nw (n : Nat) : Nat := (n + 63) / 64
def vws (f : Nat → Bool) (n : Nat) : List Nat := (List.range (nw n)).map (wd f)
theorem vws_length (f : Nat → Bool) (n : Nat) : (vws f n).length = nw n := by simp [vws]
theorem vws_get (f : Nat → Bool) (n k : Nat) (h : k < nw n) : (vws f n)[k]? = some (wd f k) := by simp [vws, h]
end Go.Proofs.YthkgjhjfgoglhaaDoor
