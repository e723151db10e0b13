/- The plain law of ShapeBack: what is named is read as it was, what is read is named so. -/
import Derived.Test.YtigcfgmblnbleaaDoorPl
import Derived.Test.YtigcfgmblnbleaaDoorNm
set_option linter.unusedSimpArgs false
set_option linter.unusedVariables false
namespace Go.Proofs.YtigcfgmblnbleaaDoor
open Go.RowKit

def dl (n : Int) : List UInt8 := (dstr n).data.toList
theorem dl_vals : ∀ n : Fin 65, 1 ≤ n.val → numL (dl n.val) = ((n.val : Int), true) ∧ (dl n.val).all digB = true := by decide +kernel
theorem dl_num {n : Int} (h : 1 ≤ n ∧ n ≤ 64) : numL (dl n) = (n, true) ∧ ∀ b ∈ dl n, digB b = true := by
  have h1 : (n.toNat : Int) = n := by omega
  have := dl_vals ⟨n.toNat, by omega⟩ (by show 1 ≤ n.toNat; omega)
  simp only [h1] at this
  exact ⟨this.1, List.all_eq_true.1 this.2⟩
/-- What is valid and small is written by its digits. -/
theorem back_num {l : List UInt8} (h : (numL l).2 = true) (hv : (numL l).1 ≤ 64) : dl (numL l).1 = l ∧ ∀ b ∈ l, digB b = true := by
  unfold numL at *
  split at h
  · cases h
  rename_i hn
  rw [if_neg hn] at hv ⊢
  split at h
  · rename_i hall
    rw [if_pos hall] at hv ⊢
    refine ⟨?_, List.all_eq_true.1 hall⟩
    have hb := List.all_eq_true.1 hall
    have hdig : ∀ b ∈ l, 48 ≤ b.toNat ∧ b.toNat ≤ 57 := fun b h => of_decide_eq_true (hb b h)
    match l, hn, hv, hdig with
    | [], hn, _, _ => exact absurd (.inl rfl) hn
    | [a], hn, hv, hdig =>
      have ha := hdig a (by simp)
      simp only [valD, List.foldl_cons, List.foldl_nil] at hv ⊢
      unfold dl dstr
      rw [if_pos (by omega)]
      show [UInt8.ofNat (48 + (10 * 0 + ((a.toNat : Int) - 48))).toNat] = [a]
      rw [show (48 + (10 * 0 + ((a.toNat : Int) - 48))).toNat = a.toNat by omega, UInt8.ofNat_toNat]
    | [a, b], hn, hv, hdig =>
      have ha := hdig a (by simp)
      have hb := hdig b (by simp)
      have h48 : a.toNat ≠ 48 := fun e => hn (.inr (.inr (by rw [List.head?_cons]; exact congrArg some (UInt8.toNat_inj.1 e))))
      simp only [valD, List.foldl_cons, List.foldl_nil] at hv ⊢
      unfold dl dstr
      rw [if_neg (by omega)]
      show [UInt8.ofNat (48 + (10 * (10 * 0 + ((a.toNat : Int) - 48)) + ((b.toNat : Int) - 48)) / 10).toNat, UInt8.ofNat (48 + (10 * (10 * 0 + ((a.toNat : Int) - 48)) + ((b.toNat : Int) - 48)) % 10).toNat] = [a, b]
      rw [show (48 + (10 * (10 * 0 + ((a.toNat : Int) - 48)) + ((b.toNat : Int) - 48)) / 10).toNat = a.toNat by omega, show (48 + (10 * (10 * 0 + ((a.toNat : Int) - 48)) + ((b.toNat : Int) - 48)) % 10).toNat = b.toNat by omega, UInt8.ofNat_toNat, UInt8.ofNat_toNat]
    | [a, b, c], hn, hv, hdig =>
      have ha := hdig a (by simp)
      have hb := hdig b (by simp)
      have hc := hdig c (by simp)
      have h48 : a.toNat ≠ 48 := fun e => hn (.inr (.inr (by rw [List.head?_cons]; exact congrArg some (UInt8.toNat_inj.1 e))))
      simp only [valD, List.foldl_cons, List.foldl_nil] at hv
      omega
    | _ :: _ :: _ :: _ :: _, hn, _, _ => exact absurd (.inr (.inl (by simp))) hn
  · cases h

theorem refF_head {s : ByteArray} {b : UInt8} {l : List UInt8} (h : s.data.toList = b :: l) (hb : s ≠ ⟨#[98]⟩) : refF s = if kindR b = 0 then (zeroCl, 13) else refG (kindR b) (scanA l 0 0 [] []) := by
  have h0 : ¬ s.size = 0 := by
    intro e
    have : s.data.toList.length = 0 := by rw [Array.length_toList]; exact e
    rw [h] at this
    cases this
  unfold refF
  rw [if_neg hb, if_neg h0, h]
  rfl
theorem ne_of_list {s : ByteArray} {b : UInt8} {l : List UInt8} (h : s.data.toList = b :: l) (hb : b ≠ 98) : s ≠ ⟨#[98]⟩ := by
  rintro rfl
  injection h with h _
  exact hb h.symm
/-- What is named is read as it was. -/
theorem parse_name (c : Cl) (h : c.check = 0) : refF (nameF c) = (c, 0) := by
  obtain ⟨kind, bits, m, k, n⟩ := c
  have hf : finF ⟨kind, bits, m, k, n⟩ = (⟨kind, bits, m, k, n⟩, 0) := by unfold finF; rw [if_pos h]
  rcases Cl.good h with ⟨rfl, hm, hk2, hn, hb⟩ | ⟨rfl | rfl, rfl, rfl, rfl, hb⟩ | ⟨rfl, rfl, rfl, rfl, rfl⟩
  · have hv : (nameF ⟨2, bits, m, k, n⟩).data.toList = 109 :: (dl bits ++ 58 :: (dl m ++ 120 :: (dl k ++ 120 :: dl n))) := by
      have : nameF ⟨2, bits, m, k, n⟩ = ((((((⟨#[109]⟩ ++ dstr bits) ++ ⟨#[58]⟩) ++ dstr m) ++ ⟨#[120]⟩) ++ dstr k) ++ ⟨#[120]⟩) ++ dstr n := by unfold nameF; rw [if_neg (by simp [h])]; rfl
      rw [this]
      simp [dl, ByteArray.data_append]
    obtain ⟨b1, b2⟩ := dl_num hb
    obtain ⟨m1, m2⟩ := dl_num (n := m) (by omega)
    obtain ⟨k1, k2⟩ := dl_num (n := k) (by omega)
    obtain ⟨n1, n2⟩ := dl_num (n := n) (by omega)
    rw [refF_head hv (ne_of_list hv (by decide)), if_neg (by decide), show kindR 109 = 2 by decide]
    rw [scan_word (dl bits) _ _ _ b2 (.inr ⟨58, _, rfl, dig58⟩), b1]
    simp only [if_true]
    rw [scan_word (dl m) _ _ _ m2 (.inr ⟨120, _, rfl, dig120⟩), m1]
    simp only [if_true]
    rw [scan_word (dl k) _ _ _ k2 (.inr ⟨120, _, rfl, dig120⟩), k1]
    simp only [if_true]
    rw [← List.append_nil (dl n), scan_word (dl n) [] _ _ n2 (.inl rfl), n1]
    simp [refG, hf]
  · have hv : (nameF ⟨1, bits, 0, 0, 0⟩).data.toList = 115 :: dl bits := by
      have : nameF ⟨1, bits, 0, 0, 0⟩ = ⟨#[115]⟩ ++ dstr bits := by unfold nameF; rw [if_neg (by simp [h])]; rfl
      rw [this]
      simp [dl, ByteArray.data_append]
    obtain ⟨b1, b2⟩ := dl_num hb
    rw [refF_head hv (ne_of_list hv (by decide)), if_neg (by decide), show kindR 115 = 1 by decide, ← List.append_nil (dl bits), scan_word (dl bits) [] _ _ b2 (.inl rfl), b1]
    simp [refG, hf]
  · have hv : (nameF ⟨4, bits, 0, 0, 0⟩).data.toList = 100 :: dl bits := by
      have : nameF ⟨4, bits, 0, 0, 0⟩ = ⟨#[100]⟩ ++ dstr bits := by unfold nameF; rw [if_neg (by simp [h])]; rfl
      rw [this]
      simp [dl, ByteArray.data_append]
    obtain ⟨b1, b2⟩ := dl_num hb
    rw [refF_head hv (ne_of_list hv (by decide)), if_neg (by decide), show kindR 100 = 4 by decide, ← List.append_nil (dl bits), scan_word (dl bits) [] _ _ b2 (.inl rfl), b1]
    simp [refG, hf]
  · have hv : nameF ⟨3, 1, 0, 0, 0⟩ = ⟨#[98]⟩ := by unfold nameF; rw [if_neg (by simp [h])]; rfl
    exact refF_b hv
theorem parse_bad (c : Cl) (h : c.check ≠ 0) : refF (nameF c) = (zeroCl, 13) := by
  have hv : nameF c = ⟨#[63]⟩ := by unfold nameF; rw [if_pos h]
  rw [hv, refF_head (b := 63) (l := []) rfl (by decide), if_pos (by decide)]
theorem fin_ok {c : Cl} (h : (finF c).2 = 0) : (finF c).1 = c ∧ c.check = 0 := by
  unfold finF at *
  split at h
  · rename_i hc
    rw [if_pos hc]
    exact ⟨rfl, hc⟩
  · rename_i hc
    exact absurd h hc
theorem bytes_of {s t : ByteArray} (h : s.data.toList = t.data.toList) : s = t := ByteArray.ext (Array.ext' h)
/-- The words that are read. -/
theorem ref_some {k : Int} {l : List UInt8} (hk : k = 1 ∨ k = 2 ∨ k = 4) (h : (refG k (scanA l 0 0 [] [])).2 = 0) :
    (k ≠ 2 ∧ (numL l).2 = true ∧ refG k (scanA l 0 0 [] []) = finF ⟨k, (numL l).1, 0, 0, 0⟩) ∨
    (k = 2 ∧ ∃ a b c d, l = a ++ 58 :: (b ++ 120 :: (c ++ 120 :: d)) ∧ (numL a).2 = true ∧ (numL b).2 = true ∧ (numL c).2 = true ∧ (numL d).2 = true ∧ refG k (scanA l 0 0 [] []) = finF ⟨2, (numL a).1, (numL b).1, (numL c).1, (numL d).1⟩) := by
  have hn : ∀ x : Cl × Int, x = (zeroCl, 13) → ¬ x.2 = 0 := fun x e => by rw [e]; decide
  obtain ⟨d, r, rfl, hd, hr⟩ := span_digits l
  rw [scan_word d r _ _ hd hr] at h ⊢
  cases hod : (numL d).2 with
  | false => rw [hod] at h; cases h
  | true =>
  rw [hod] at h
  simp only [if_true] at h ⊢
  rcases hr with rfl | ⟨c, r, rfl, hc⟩
  · by_cases h2 : k = 2
    · subst h2
      simp [refG] at h
    · refine .inl ⟨h2, by rw [List.append_nil]; exact hod, ?_⟩
      simp [refG, h2]
  by_cases h2 : k = 2
  rotate_left
  · exact absurd h (hn _ (ref_marks (fun q h => h2 h.1) (by simp)))
  subst h2
  by_cases e0 : c = 58
  rotate_left
  · exact absurd h (hn _ (ref_marks (fun q h => by have := h.2; simp at this; exact e0 this.1) (by simp)))
  subst e0
  refine .inr ⟨rfl, ?_⟩
  simp only [List.nil_append] at h ⊢
  obtain ⟨d1, r1, rfl, hd1, hr1⟩ := span_digits r
  rw [scan_word d1 r1 _ _ hd1 hr1] at h ⊢
  cases ho1 : (numL d1).2 with
  | false => rw [ho1] at h; cases h
  | true =>
  rw [ho1] at h
  simp only [if_true] at h ⊢
  rcases hr1 with rfl | ⟨c1, r1, rfl, hc1⟩
  · simp [refG] at h
  by_cases e1 : c1 = 120
  rotate_left
  · exact absurd h (hn _ (ref_marks (fun q h => by have := h.2; simp at this; exact e1 this.1) (by simp)))
  subst e1
  obtain ⟨d2, r2, rfl, hd2, hr2⟩ := span_digits r1
  simp only at h ⊢
  rw [scan_word d2 r2 _ _ hd2 hr2] at h ⊢
  cases ho2 : (numL d2).2 with
  | false => rw [ho2] at h; cases h
  | true =>
  rw [ho2] at h
  simp only [if_true] at h ⊢
  rcases hr2 with rfl | ⟨c2, r2, rfl, hc2⟩
  · simp [refG] at h
  by_cases e2 : c2 = 120
  rotate_left
  · exact absurd h (hn _ (ref_marks (fun q h => by have := h.2; simp at this; exact e2 this.1) (by simp)))
  subst e2
  obtain ⟨d3, r3, rfl, hd3, hr3⟩ := span_digits r2
  simp only at h ⊢
  rw [scan_word d3 r3 _ _ hd3 hr3] at h ⊢
  cases ho3 : (numL d3).2 with
  | false => rw [ho3] at h; cases h
  | true =>
  rw [ho3] at h
  simp only [if_true] at h ⊢
  rcases hr3 with rfl | ⟨c3, r3, rfl, hc3⟩
  · exact ⟨d, d1, d2, d3, by simp, hod, ho1, ho2, ho3, by simp [refG]⟩
  · exact absurd h (hn _ (ref_marks (fun q h => by have := h.2; simp at this) (by simp)))
/-- What is read is named so. -/
theorem name_parse (s : ByteArray) (h : (refF s).2 = 0) : nameF (refF s).1 = s := by
  by_cases hb : s = ⟨#[98]⟩
  · rw [refF_b hb, hb]
    decide
  cases hs : s.data.toList with
  | nil =>
    have h0 : s.size = 0 := by
      have : s.data.toList.length = 0 := by rw [hs]; rfl
      rw [Array.length_toList] at this
      exact this
    rw [refF_nil hb h0] at h
    cases h
  | cons b l =>
    rw [refF_head hs hb] at h ⊢
    by_cases h0 : kindR b = 0
    · rw [if_pos h0] at h
      cases h
    rw [if_neg h0] at h ⊢
    have hk : kindR b = 1 ∧ b = 115 ∨ kindR b = 2 ∧ b = 109 ∨ kindR b = 4 ∧ b = 100 := by
      unfold kindR at h0 ⊢
      by_cases h1 : b.toNat = 115
      · rw [if_pos h1]; exact .inl ⟨rfl, UInt8.toNat_inj.1 h1⟩
      · rw [if_neg h1] at h0 ⊢
        by_cases h2 : b.toNat = 109
        · rw [if_pos h2]; exact .inr (.inl ⟨rfl, UInt8.toNat_inj.1 h2⟩)
        · rw [if_neg h2] at h0 ⊢
          by_cases h3 : b.toNat = 100
          · rw [if_pos h3]; exact .inr (.inr ⟨rfl, UInt8.toNat_inj.1 h3⟩)
          · rw [if_neg h3] at h0
            exact absurd rfl h0
    rcases ref_some (l := l) (k := kindR b) (by omega) h with ⟨h2, ho, he⟩ | ⟨h2, a, b1, c1, d1, rfl, hoa, hob, hoc, hod, he⟩
    · rw [he] at h ⊢
      obtain ⟨e1, e2⟩ := fin_ok h
      rw [e1]
      rcases hk with ⟨hk, rfl⟩ | ⟨hk, rfl⟩ | ⟨hk, rfl⟩
      · rw [hk] at e2 ⊢
        rcases Cl.good e2 with ⟨x, _⟩ | ⟨_, _, _, _, hbits⟩ | ⟨x, _⟩
        · cases x
        · apply bytes_of
          have hv : nameF ⟨1, (numL l).1, 0, 0, 0⟩ = ⟨#[115]⟩ ++ dstr (numL l).1 := by unfold nameF; rw [if_neg (by simp [e2])]; rfl
          rw [hv, hs, ByteArray.data_append, Array.toList_append]
          show [115] ++ dl (numL l).1 = _
          rw [(back_num ho hbits.2).1]
          rfl
        · cases x
      · exact absurd hk h2
      · rw [hk] at e2 ⊢
        rcases Cl.good e2 with ⟨x, _⟩ | ⟨_, _, _, _, hbits⟩ | ⟨x, _⟩
        · cases x
        · apply bytes_of
          have hv : nameF ⟨4, (numL l).1, 0, 0, 0⟩ = ⟨#[100]⟩ ++ dstr (numL l).1 := by unfold nameF; rw [if_neg (by simp [e2])]; rfl
          rw [hv, hs, ByteArray.data_append, Array.toList_append]
          show [100] ++ dl (numL l).1 = _
          rw [(back_num ho hbits.2).1]
          rfl
        · cases x
    · rw [he] at h ⊢
      obtain ⟨e1, e2⟩ := fin_ok h
      rw [e1]
      obtain rfl : b = 109 := by
        rcases hk with ⟨hk, _⟩ | ⟨_, hb⟩ | ⟨hk, _⟩
        · rw [hk] at h2; cases h2
        · exact hb
        · rw [hk] at h2; cases h2
      rcases Cl.good e2 with ⟨_, hm, hk2, hn, hbits⟩ | ⟨x, _⟩ | ⟨x, _⟩
      · apply bytes_of
        have hv : nameF ⟨2, (numL a).1, (numL b1).1, (numL c1).1, (numL d1).1⟩ = ((((((⟨#[109]⟩ ++ dstr (numL a).1) ++ ⟨#[58]⟩) ++ dstr (numL b1).1) ++ ⟨#[120]⟩) ++ dstr (numL c1).1) ++ ⟨#[120]⟩) ++ dstr (numL d1).1 := by unfold nameF; rw [if_neg (by simp [e2])]; rfl
        rw [hv, hs]
        have q1 : (dstr (numL a).1).data.toList = a := (back_num hoa hbits.2).1
        have q2 : (dstr (numL b1).1).data.toList = b1 := (back_num hob (by omega)).1
        have q3 : (dstr (numL c1).1).data.toList = c1 := (back_num hoc (by omega)).1
        have q4 : (dstr (numL d1).1).data.toList = d1 := (back_num hod (by omega)).1
        simp only [ByteArray.data_append, Array.toList_append, q1, q2, q3, q4]
        simp
      · rcases x with x | x <;> cases x
      · cases x
end Go.Proofs.YtigcfgmblnbleaaDoor
