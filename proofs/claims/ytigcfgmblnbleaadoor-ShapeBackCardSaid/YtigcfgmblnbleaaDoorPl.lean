/- The plain law: Parse and the reference's Parse answer alike. -/
import Derived.Test.YtigcfgmblnbleaaDoorRp
set_option linter.unusedSimpArgs false
set_option linter.unusedVariables false
namespace Go.Proofs.YtigcfgmblnbleaaDoor
open Go.RowKit

theorem index_none1 (c : UInt8) : ∀ l : List UInt8, c ∉ l → Lib.index l [c] = -1
  | [], _ => by simp [Lib.index]
  | b :: l, h => by
    have hb : ¬ c = b := fun e => h (by simp [e])
    have hl := index_none1 c l (fun e => h (List.mem_cons_of_mem _ e))
    rw [Lib.index, hl]
    simp [List.isPrefixOf, hb]
theorem index_at (c : UInt8) : ∀ (a t : List UInt8), c ∉ a → Lib.index (a ++ c :: t) [c] = a.length
  | [], t, _ => by simp [Lib.index, List.isPrefixOf]
  | b :: a, t, h => by
    have hb : ¬ c = b := fun e => h (by simp [e])
    have hl := index_at c a t (fun e => h (List.mem_cons_of_mem _ e))
    rw [List.cons_append, Lib.index, hl]
    simp [List.isPrefixOf, hb]
theorem cut_at (c : UInt8) (a t : List UInt8) (h : c ∉ a) : Lib.cut (a ++ c :: t) [c] = (a, t, true) := by
  unfold Lib.cut
  rw [index_at c a t h, if_pos (by omega)]
  simp
theorem cut_none (c : UInt8) (l : List UInt8) (h : c ∉ l) : Lib.cut l [c] = (l, [], false) := by
  unfold Lib.cut
  rw [index_none1 c l h, if_neg (by decide)]
def pl (l : List UInt8) : List (List UInt8) := Lib.splitK [120] 0 (Lib.count l [120]) l
theorem pl_none (l : List UInt8) (h : 120 ∉ l) : pl l = [l] := by
  unfold pl
  rw [Lib.count_miss (index_none1 _ _ h)]
  rfl
theorem pl_at (a t : List UInt8) (h : 120 ∉ a) : pl (a ++ 120 :: t) = a :: pl t := by
  unfold pl
  rw [Lib.count_hit (by simp) (index_at 120 a t h)]
  rw [show (a ++ 120 :: t).drop (a.length + ([120] : List UInt8).length) = t by simp]
  rw [Nat.add_comm, Lib.splitK, index_at 120 a t h, if_neg (by simp)]
  simp
theorem split_first (c : UInt8) : ∀ l : List UInt8, c ∈ l → ∃ a t, l = a ++ c :: t ∧ c ∉ a
  | [], h => by cases h
  | b :: l, h => by
    by_cases e : c = b
    · subst e; exact ⟨[], l, rfl, by simp⟩
    · obtain ⟨a, t, rfl, ha⟩ := split_first c l (by simpa [e] using h)
      exact ⟨b :: a, t, rfl, by simp [e, ha]⟩

def numL (l : List UInt8) : Int × Bool := if l.length = 0 ∨ 3 < l.length ∨ l.head? = some 48 then (0, false) else if l.all digB then (valD l, true) else (0, false)
theorem numR_L (s : ByteArray) : numR s = numL s.data.toList := by
  unfold numR numL
  rw [show s.size = s.data.toList.length by rw [Array.length_toList]; rfl]
theorem numL_bad {l : List UInt8} {c : UInt8} (hm : c ∈ l) (hc : digB c = false) : (numL l).2 = false := by
  unfold numL
  split
  · rfl
  · rw [if_neg]
    rw [Bool.not_eq_true, List.all_eq_false]
    exact ⟨c, hm, by simp [hc]⟩
def parseL (k : Int) (is : Bool) (nu : Int × Bool) (ps : List (List UInt8)) : Cl × Int :=
  if nu.2 = false ∨ k < 1 ∨ is ≠ decide (k = 2) then (zeroCl, 13)
  else if k = 2 then
    match ps with
    | [p0, p1, p2] => if (numL p0).2 && (numL p1).2 && (numL p2).2 then finF ⟨2, nu.1, (numL p0).1, (numL p1).1, (numL p2).1⟩ else (zeroCl, 13)
    | _ => (zeroCl, 13)
  else finF ⟨k, nu.1, 0, 0, 0⟩
theorem parseG_L (k : Int) (is : Bool) (nu : Int × Bool) (ps : List ByteArray) : parseG k is nu ps = parseL k is nu (ps.map fun p => p.data.toList) := by
  unfold parseG parseL
  match ps with
  | [] => rfl
  | [_] => rfl
  | [_, _] => rfl
  | [p0, p1, p2] => simp only [numR_L, List.map_cons, List.map_nil]
  | _ :: _ :: _ :: _ :: _ => rfl
/-- By the list of the bytes behind the first one. -/
def parseB (k : Int) (l : List UInt8) : Cl × Int := parseL k (Lib.cut l [58]).2.2 (numL (Lib.cut l [58]).1) (pl (Lib.cut l [58]).2.1)
theorem tail_list (s : ByteArray) : (s.extract 1 s.size).data.toList = s.data.toList.drop 1 := by
  simp [ByteArray.data_extract, Array.toList_extract, List.extract_eq_take_drop]
  rw [List.take_of_length_le]
  rw [List.length_tail, Array.length_toList]
  exact Nat.le_refl _
theorem parseG_B (k : Int) (s : ByteArray) : parseG k (cutB s) (numR (cutH s)) (pieces (cutT s)) = parseB k (s.data.toList.drop 1) := by
  rw [parseG_L, numR_L]
  unfold parseB
  have h1 : (pieces (cutT s)).map (fun p => p.data.toList) = pl (Lib.cut (s.data.toList.drop 1) [58]).2.1 := by
    unfold pieces pl
    rw [Lib.splitB_data]
    unfold cutT
    rw [tail_list]
  rw [h1]
  unfold cutB cutH
  rw [tail_list]

/-! The scanner, word by word. -/
theorem dig_ne {b c : UInt8} (hb : digB b = true) (hc : digB c = false) : c ≠ b := fun e => by rw [e, hb] at hc; cases hc
theorem dig58 : digB 58 = false := by decide
theorem dig120 : digB 120 = false := by decide
theorem scan_digits : ∀ (d r : List UInt8) (n : Int) (k : Nat) (nums : List Int) (marks : List UInt8), (∀ b ∈ d, digB b = true) → (k = 0 → d.head? ≠ some 48) → k + d.length ≤ 3 →
    scanA (d ++ r) n k nums marks = scanA r (d.foldl (fun n b => 10 * n + ((b.toNat : Int) - 48)) n) (k + d.length) nums marks
  | [], r, n, k, nums, marks, _, _, _ => rfl
  | b :: d, r, n, k, nums, marks, hd, hh, hl => by
    have hb := hd b (by simp)
    simp only [List.length_cons] at hl
    have h0 : ¬ (k = 0 ∧ b.toNat = 48 ∨ k = 3) := by
      rintro (⟨h1, h2⟩ | h)
      · exact hh h1 (by rw [List.head?_cons]; exact congrArg some (UInt8.toNat_inj.1 h2))
      · omega
    rw [List.cons_append, scanA, if_pos hb, if_neg h0, scan_digits d r _ (k + 1) nums marks (fun x hx => hd x (by simp [hx])) (fun h => by omega) (by omega)]
    rw [List.foldl_cons, List.length_cons, show k + (d.length + 1) = k + 1 + d.length by omega]
theorem scan_long : ∀ (d r : List UInt8) (n : Int) (k : Nat) (nums : List Int) (marks : List UInt8), (∀ b ∈ d, digB b = true) → k ≤ 3 → 3 < k + d.length → scanA (d ++ r) n k nums marks = none
  | [], r, n, k, nums, marks, _, h1, h2 => by simp at h2; omega
  | b :: d, r, n, k, nums, marks, hd, h1, h2 => by
    have hb := hd b (by simp)
    simp only [List.length_cons] at h2
    rw [List.cons_append, scanA, if_pos hb]
    by_cases h3 : k = 0 ∧ b.toNat = 48 ∨ k = 3
    · rw [if_pos h3]
    · rw [if_neg h3]
      exact scan_long d r _ (k + 1) nums marks (fun x hx => hd x (by simp [hx])) (by omega) (by omega)
/-- A word of digits: at its end. -/
theorem scan_word (d r : List UInt8) (nums : List Int) (marks : List UInt8) (hd : ∀ b ∈ d, digB b = true) (hr : r = [] ∨ ∃ c r', r = c :: r' ∧ digB c = false) :
    scanA (d ++ r) 0 0 nums marks = if (numL d).2 then (match r with | [] => some (nums ++ [(numL d).1], marks) | c :: r' => scanA r' 0 0 (nums ++ [(numL d).1]) (marks ++ [c])) else none := by
  have hall : d.all digB = true := List.all_eq_true.2 hd
  by_cases h0 : d.length = 0
  · have : d = [] := List.length_eq_zero_iff.1 h0
    subst this
    rw [if_neg (by simp [numL])]
    rcases hr with rfl | ⟨c, r', rfl, hc⟩
    · rfl
    · rw [List.nil_append, scanA, if_neg (by simp [hc]), if_pos rfl]
  by_cases h3 : 3 < d.length
  · rw [if_neg (by unfold numL; rw [if_pos (.inr (.inl h3))]; simp), scan_long d r 0 0 nums marks hd (by omega) (by omega)]
  by_cases h48 : d.head? = some 48
  · rw [if_neg (by unfold numL; rw [if_pos (.inr (.inr h48))]; simp)]
    obtain ⟨b, d', rfl⟩ : ∃ b d', d = b :: d' := by
      cases d with
      | nil => exact absurd rfl h0
      | cons b d' => exact ⟨b, d', rfl⟩
    obtain rfl : b = 48 := by simpa using h48
    rw [List.cons_append, scanA, if_pos (by decide), if_pos (.inl ⟨rfl, by decide⟩)]
  have hn : numL d = (valD d, true) := by
    unfold numL
    rw [if_neg (by rintro (h | h | h); exact h0 h; exact h3 h; exact h48 h), if_pos hall]
  rw [hn, if_pos rfl, scan_digits d r 0 0 nums marks hd (fun _ => h48) (by omega)]
  rcases hr with rfl | ⟨c, r', rfl, hc⟩
  · rw [scanA, if_neg (by omega)]
    rfl
  · rw [scanA, if_neg (by simp [hc]), if_neg (by omega)]
    rfl
theorem scan_marks : ∀ (l : List UInt8) (n : Int) (k : Nat) (nums : List Int) (marks : List UInt8) (ns : List Int) (ms : List UInt8), scanA l n k nums marks = some (ns, ms) → ∃ q, ms = marks ++ q
  | [], n, k, nums, marks, ns, ms, h => by
    rw [scanA] at h
    split at h
    · cases h
    · injection h with h
      injection h with _ h
      exact ⟨[], by simp [h]⟩
  | b :: l, n, k, nums, marks, ns, ms, h => by
    rw [scanA] at h
    split at h
    · split at h
      · cases h
      · exact scan_marks l _ _ _ _ _ _ h
    · split at h
      · cases h
      · obtain ⟨q, rfl⟩ := scan_marks l _ _ _ _ _ _ h
        exact ⟨b :: q, by simp⟩
/-- Every list: digits, then nothing or another sign. -/
theorem span_digits : ∀ l : List UInt8, ∃ d r, l = d ++ r ∧ (∀ b ∈ d, digB b = true) ∧ (r = [] ∨ ∃ c r', r = c :: r' ∧ digB c = false)
  | [] => ⟨[], [], rfl, by simp, .inl rfl⟩
  | b :: l => by
    cases hb : digB b with
    | false => exact ⟨[], b :: l, rfl, by simp, .inr ⟨b, l, rfl, hb⟩⟩
    | true =>
      obtain ⟨d, r, rfl, hd, hr⟩ := span_digits l
      exact ⟨b :: d, r, rfl, by intro x hx; rcases List.mem_cons.1 hx with rfl | hx; exact hb; exact hd x hx, hr⟩
theorem not_in_digits {d : List UInt8} {c : UInt8} (hd : ∀ b ∈ d, digB b = true) (hc : digB c = false) : c ∉ d := fun h => by rw [hd c h] at hc; cases hc

/-- The reference's answer where the marks begin otherwise. -/
theorem ref_marks {k : Int} {l : List UInt8} {nums : List Int} {marks : List UInt8} (h : ∀ q, ¬ (k = 2 ∧ marks ++ q = [58, 120, 120])) (hne : marks ≠ []) : refG k (scanA l 0 0 nums marks) = (zeroCl, 13) := by
  cases hs : scanA l 0 0 nums marks with
  | none => rfl
  | some x =>
    obtain ⟨ns, ms⟩ := x
    obtain ⟨q, rfl⟩ := scan_marks l 0 0 nums marks ns ms hs
    unfold refG
    simp only
    rw [if_neg (h q), if_pos]
    right
    simp [hne]
theorem ref_ite {k : Int} {b : Bool} {x : Option (List Int × List UInt8)} (h : refG k x = (zeroCl, 13)) : refG k (if b then x else none) = (zeroCl, 13) := by
  cases b
  · rfl
  · exact h

theorem first_piece {d r : List UInt8} {c : UInt8} (hd : ∀ b ∈ d, digB b = true) (hc : c ≠ 120) : ∃ p q, pl (d ++ c :: r) = p :: q ∧ c ∈ p := by
  have hd120 := not_in_digits hd dig120
  by_cases h : (120 : UInt8) ∈ r
  · obtain ⟨a, t, rfl, ha⟩ := split_first 120 r h
    refine ⟨d ++ c :: a, pl t, ?_, by simp⟩
    rw [← pl_at _ _ (by simp [hd120, ha, Ne.symm hc])]
    simp
  · exact ⟨_, [], pl_none _ (by simp [hd120, h, Ne.symm hc]), by simp⟩
theorem pl_ne : ∀ l : List UInt8, pl l ≠ [] := fun l => by
  by_cases h : (120 : UInt8) ∈ l
  · obtain ⟨a, t, rfl, ha⟩ := split_first 120 l h
    rw [pl_at _ _ ha]
    simp
  · rw [pl_none _ h]
    simp
/-- What is answered at three pieces. -/
def three (n : Int) (ps : List (List UInt8)) : Cl × Int := match ps with
    | [p0, p1, p2] => if (numL p0).2 && (numL p1).2 && (numL p2).2 then finF ⟨2, n, (numL p0).1, (numL p1).1, (numL p2).1⟩ else (zeroCl, 13)
    | _ => (zeroCl, 13)
theorem three_bad0 (n : Int) (p : List UInt8) (q : List (List UInt8)) (h : (numL p).2 = false) : three n (p :: q) = (zeroCl, 13) := by
  match q with
  | [] => rfl
  | [_] => rfl
  | [_, _] => simp [three, h]
  | _ :: _ :: _ :: _ => rfl
theorem three_bad1 (n : Int) (p0 p : List UInt8) (q : List (List UInt8)) (h : (numL p).2 = false) : three n (p0 :: p :: q) = (zeroCl, 13) := by
  match q with
  | [] => rfl
  | [_] => simp [three, h]
  | _ :: _ :: _ => rfl
theorem three_bad2 (n : Int) (p0 p1 p : List UInt8) (q : List (List UInt8)) (h : (numL p).2 = false) : three n (p0 :: p1 :: p :: q) = (zeroCl, 13) := by
  match q with
  | [] => simp [three, h]
  | _ :: _ => rfl

/-- What stands behind the colon. -/
theorem behind (n : Int) (l : List UInt8) : three n (pl l) = refG 2 (scanA l 0 0 [n] [58]) := by
  obtain ⟨d1, r1, rfl, hd1, hr1⟩ := span_digits l
  rw [scan_word d1 r1 _ _ hd1 hr1]
  rcases hr1 with rfl | ⟨c1, r1, rfl, hc1⟩
  · rw [List.append_nil, pl_none _ (not_in_digits hd1 dig120)]
    exact (ref_ite rfl).symm
  by_cases e1 : c1 = 120
  rotate_left
  · obtain ⟨p, q, hp, hm⟩ := first_piece (r := r1) hd1 e1
    rw [hp, three_bad0 n p q (numL_bad hm hc1)]
    exact (ref_ite (ref_marks (fun q h => by have := h.2; simp at this; exact e1 this.1) (by simp))).symm
  subst e1
  rw [pl_at _ _ (not_in_digits hd1 dig120)]
  obtain ⟨d2, r2, rfl, hd2, hr2⟩ := span_digits r1
  cases ho1 : (numL d1).2 with
  | false =>
    obtain ⟨p, q, hp⟩ : ∃ p q, pl (d2 ++ r2) = p :: q := List.exists_cons_of_ne_nil (pl_ne _)
    rw [hp, three_bad0 n d1 _ ho1]
    rfl
  | true =>
  simp only [if_true]
  rw [scan_word d2 r2 _ _ hd2 hr2]
  rcases hr2 with rfl | ⟨c2, r2, rfl, hc2⟩
  · rw [List.append_nil, pl_none _ (not_in_digits hd2 dig120)]
    exact (ref_ite rfl).symm
  by_cases e2 : c2 = 120
  rotate_left
  · obtain ⟨p, q, hp, hm⟩ := first_piece (r := r2) hd2 e2
    rw [hp, three_bad1 n d1 p q (numL_bad hm hc2)]
    exact (ref_ite (ref_marks (fun q h => by have := h.2; simp at this; exact e2 this.1) (by simp))).symm
  subst e2
  rw [pl_at _ _ (not_in_digits hd2 dig120)]
  obtain ⟨d3, r3, rfl, hd3, hr3⟩ := span_digits r2
  cases ho2 : (numL d2).2 with
  | false =>
    rw [three_bad1 n d1 d2 _ ho2]
    rfl
  | true =>
  simp only [if_true]
  rw [scan_word d3 r3 _ _ hd3 hr3]
  rcases hr3 with rfl | ⟨c3, r3, rfl, hc3⟩
  · rw [List.append_nil, pl_none _ (not_in_digits hd3 dig120)]
    cases ho3 : (numL d3).2 with
    | false => simp [three, ho1, ho2, ho3, refG]
    | true => simp [three, ho1, ho2, ho3, refG]
  · have hR : refG 2 (if (numL d3).2 then scanA r3 0 0 ([n] ++ [(numL d1).1] ++ [(numL d2).1] ++ [(numL d3).1]) ([58] ++ [120] ++ [120] ++ [c3]) else none) = (zeroCl, 13) :=
      ref_ite (ref_marks (fun q h => by have := h.2; simp at this) (by simp))
    refine Eq.trans ?_ hR.symm
    by_cases e3 : c3 = 120
    · subst e3
      rw [pl_at _ _ (not_in_digits hd3 dig120)]
      obtain ⟨p, q, hp⟩ : ∃ p q, pl r3 = p :: q := List.exists_cons_of_ne_nil (pl_ne _)
      rw [hp]
      rfl
    · obtain ⟨p, q, hp, hm⟩ := first_piece (r := r3) hd3 e3
      rw [hp, three_bad2 n d1 d2 p q (numL_bad hm hc3)]

theorem parse_ref (k : Int) (hk : k = 1 ∨ k = 2 ∨ k = 4) (l : List UInt8) : parseB k l = refG k (scanA l 0 0 [] []) := by
  obtain ⟨d, r, rfl, hd, hr⟩ := span_digits l
  have hk1 : ¬ k < 1 := by omega
  rw [scan_word d r _ _ hd hr]
  have h58 := not_in_digits hd dig58
  rcases hr with rfl | ⟨c, r, rfl, hc⟩
  · rw [List.append_nil]
    unfold parseB
    rw [cut_none _ _ h58]
    simp only
    cases ho : (numL d).2 with
    | false =>
      unfold parseL
      rw [if_pos (.inl ho)]
      rfl
    | true =>
      unfold parseL
      by_cases h2 : k = 2
      · subst h2
        rw [if_pos (.inr (.inr (by decide)))]
        simp [refG]
      · rw [if_neg (by simp [ho, hk1, h2]), if_neg h2]
        simp [refG, h2]
  by_cases hc58 : c = 58
  · subst hc58
    unfold parseB
    rw [cut_at _ _ _ h58]
    simp only
    by_cases h2 : k = 2
    · subst h2
      cases ho : (numL d).2 with
      | false =>
        unfold parseL
        rw [if_pos (.inl ho)]
        rfl
      | true =>
        have := behind (numL d).1 r
        unfold parseL
        rw [if_neg (by simp [ho]), if_pos rfl]
        simp only [if_true]
        exact this
    · unfold parseL
      rw [if_pos (.inr (.inr (by simp [h2])))]
      exact (ref_ite (ref_marks (fun q h => h2 h.1) (by simp))).symm
  · have hbad : (numL (Lib.cut (d ++ c :: r) [58]).1).2 = false := by
      by_cases h : (58 : UInt8) ∈ r
      · obtain ⟨a, t, rfl, ha⟩ := split_first 58 r h
        rw [show d ++ c :: (a ++ 58 :: t) = (d ++ c :: a) ++ 58 :: t by simp, cut_at _ _ _ (by simp [h58, ha, Ne.symm hc58])]
        exact numL_bad (c := c) (by simp) hc
      · rw [cut_none _ _ (by simp [h58, h, Ne.symm hc58])]
        exact numL_bad (c := c) (by simp) hc
    unfold parseB parseL
    rw [if_pos (.inl hbad)]
    exact (ref_ite (ref_marks (fun q h => by have := h.2; simp at this; exact hc58 this.1) (by simp))).symm

theorem kind_vals (b : UInt8) : kindOf b < 1 ∧ kindR b = 0 ∨ kindOf b = kindR b ∧ (kindR b = 1 ∨ kindR b = 2 ∨ kindR b = 4) := by
  have h : ∀ n : Nat, n < 256 → kindOf (UInt8.ofNat n) < 1 ∧ kindR (UInt8.ofNat n) = 0 ∨ kindOf (UInt8.ofNat n) = kindR (UInt8.ofNat n) ∧ (kindR (UInt8.ofNat n) = 1 ∨ kindR (UInt8.ofNat n) = 2 ∨ kindR (UInt8.ofNat n) = 4) := by decide +kernel
  have := h b.toNat b.toNat_lt
  rwa [UInt8.ofNat_toNat] at this
theorem parse_eq (s : ByteArray) : parseF s = refF s := by
  by_cases hb : s = ⟨#[98]⟩
  · rw [parseF_b hb, refF_b hb]
  by_cases h0 : s.size = 0
  · rw [parseF_nil hb h0, refF_nil hb h0]
  unfold parseF refF
  rw [if_neg hb, if_neg h0, if_neg hb, if_neg h0, parseG_B]
  generalize s.data.toList.head?.getD 0 = b
  rcases kind_vals b with ⟨h1, h2⟩ | ⟨h1, h2⟩
  · rw [if_pos h2]
    unfold parseB parseL
    rw [if_pos (.inr (.inl h1))]
  · rw [if_neg (by omega), h1]
    exact parse_ref _ h2 _
end Go.Proofs.YtigcfgmblnbleaaDoor
