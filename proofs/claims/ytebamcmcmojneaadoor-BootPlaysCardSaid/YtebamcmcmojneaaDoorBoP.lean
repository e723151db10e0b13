/- boot: what the counts are, in plain words. -/
import Derived.Test.YtebamcmcmojneaaDoorBoT
set_option linter.unusedSimpArgs false
set_option linter.unusedVariables false
namespace Go.Proofs.YtebamcmcmojneaaDoor
open Go.RowKit Go.Lib

theorem by4_nums (l : List Int) (k : Nat) (h : ∀ x ∈ l, 0 ≤ x ∧ x ≤ 255) (hk : k < l.length) : by4 (strOfNums l) k = l.getD k 0 := by
  have h1 : (strOfNums l).data.toList = l.map fun x => UInt8.ofNat x.toNat := by simp [strOfNums]
  unfold by4
  rw [h1]
  have hx := h l[k] (List.getElem_mem hk)
  simp only [List.getD_eq_getElem?_getD, List.getElem?_map, List.getElem?_eq_getElem hk, Option.map_some, Option.getD_some]
  rw [UInt8.toNat_ofNat']
  omega
theorem nums_size (l : List Int) : (strOfNums l).size = l.length := by simp [strOfNums, ByteArray.size]
theorem b4_range (x : Int) (h0 : 0 ≤ x) (h1 : x ≤ 4294967295) : ∀ y ∈ b4 x, 0 ≤ y ∧ y ≤ 255 := by
  intro y hy
  simp only [b4, List.mem_cons, List.not_mem_nil, or_false] at hy
  rcases hy with rfl | rfl | rfl | rfl <;> omega
theorem rec3_range (n : Int) (h0 : 0 ≤ n) (h1 : n ≤ 4294967295) : ∀ y ∈ rec3 n, 0 ≤ y ∧ y ≤ 255 := by
  intro y hy
  simp only [rec3, List.mem_append] at hy
  rcases hy with (hy | hy) | hy
  · exact b4_range n h0 h1 y hy
  · exact b4_range _ (by omega) (by omega) y hy
  · exact b4_range _ (by omega) (by omega) y hy
theorem rec_size (n : Int) : (recS n).size = 12 := by rw [recS, nums_size]; simp [rec3, b4]
theorem by4_rec (n : Int) (h0 : 0 ≤ n) (h1 : n ≤ 4294967295) (k : Nat) (hk : k < 12) : by4 (recS n) k = (rec3 n).getD k 0 := by
  rw [recS, by4_nums _ _ (rec3_range n h0 h1) (by simp [rec3, b4]; omega)]
theorem be4_rec (n : Int) (h0 : 0 ≤ n) (h1 : n ≤ 4294967295) : be4 (recS n) = n := by
  unfold be4
  rw [by4_rec n h0 h1 0 (by omega), by4_rec n h0 h1 1 (by omega), by4_rec n h0 h1 2 (by omega), by4_rec n h0 h1 3 (by omega)]
  simp only [rec3, b4, List.cons_append, List.nil_append, List.getD_cons_zero, List.getD_cons_succ]
  omega
theorem decV_rec (n : Int) (h0 : 0 ≤ n) (h1 : n ≤ 4294967295) : decV (recS n) = n := by
  unfold decV
  rw [if_pos (rec_size n), be4_rec n h0 h1, if_pos rfl]
theorem decV_empty : decV ⟨#[]⟩ = 0 := by
  unfold decV
  rw [if_neg (by decide)]

structure Good (s : ByteArray) (m : Int) : Prop where
  size : s.size ≤ 12
  zero : s.size = 12 → by4 s 0 = 0 ∧ by4 s 1 = 0 ∧ by4 s 2 = 0 ∧ by4 s 3 ≤ m
theorem Good.mono {s : ByteArray} {m k : Int} (h : Good s m) (hk : m ≤ k) : Good s k := ⟨h.size, fun e => by have := h.zero e; omega⟩
theorem Good.dec {s : ByteArray} {m : Int} (h : Good s m) (hm : 0 ≤ m) : decV s ≤ m := by
  unfold decV be4
  split
  · rename_i e
    have := h.zero e
    split <;> omega
  · exact hm
theorem good_rec (n : Int) (h0 : 0 ≤ n) (h1 : n ≤ 255) : Good (recS n) n := by
  refine ⟨by rw [rec_size]; omega, fun _ => ?_⟩
  rw [by4_rec n h0 (by omega) 0 (by omega), by4_rec n h0 (by omega) 1 (by omega), by4_rec n h0 (by omega) 2 (by omega), by4_rec n h0 (by omega) 3 (by omega)]
  simp only [rec3, b4, List.cons_append, List.nil_append, List.getD_cons_zero, List.getD_cons_succ]
  omega
theorem good_empty (m : Int) : Good ⟨#[]⟩ m := ⟨by decide, fun e => absurd e (by decide)⟩

theorem torn_list (t old : ByteArray) (k : Nat) (hk : k < 12) (ho : old.size = 12) : (torn t old k).data.toList = t.data.toList.take k ++ old.data.toList.drop k := by
  have h1 : old.data.toList.length = 12 := by rw [Array.length_toList]; exact ho
  unfold torn
  rw [if_pos ⟨ho, hk⟩, ByteArray.data_append, Array.toList_append, ByteArray.data_extract, ByteArray.data_extract, Array.toList_extract, Array.toList_extract, List.extract_eq_take_drop, List.extract_eq_take_drop]
  rw [ho, List.drop_zero, Nat.sub_zero]
  congr 1
  exact List.take_of_length_le (by rw [List.length_drop]; omega)
theorem by4_torn (t old : ByteArray) (k : Nat) (hk : k < 12) (ht : t.size = 12) (ho : old.size = 12) (j : Nat) : by4 (torn t old k) j = if j < k then by4 t j else by4 old j := by
  have h1 : old.data.toList.length = 12 := by rw [Array.length_toList]; exact ho
  have h2 : t.data.toList.length = 12 := by rw [Array.length_toList]; exact ht
  unfold by4
  rw [torn_list t old k hk ho]
  simp only [List.getD_eq_getElem?_getD]
  by_cases hj : j < k
  · rw [if_pos hj, List.getElem?_append_left (by rw [List.length_take]; omega), List.getElem?_take_of_lt hj]
  · rw [if_neg hj, List.getElem?_append_right (by rw [List.length_take]; omega), List.length_take, List.getElem?_drop, show k + (j - min k t.data.toList.length) = j by omega]
theorem torn_size (t old : ByteArray) (k : Nat) (hk : k < 12) (ht : t.size = 12) : (torn t old k).size ≤ 12 := by
  unfold torn
  split
  · rw [ByteArray.size_append, ByteArray.size_extract, ByteArray.size_extract]; omega
  · rw [ext_nil, ByteArray.size_extract]; omega
theorem good_torn (t old : ByteArray) (k : Nat) (m : Int) (hk : k < 12) (ht : t.size = 12) (gt : Good t m) (go : Good old m) : Good (torn t old k) m := by
  refine ⟨torn_size t old k hk ht, fun e => ?_⟩
  by_cases ho : old.size = 12
  · have a := gt.zero ht
    have b := go.zero ho
    rw [by4_torn t old k hk ht ho, by4_torn t old k hk ht ho, by4_torn t old k hk ht ho, by4_torn t old k hk ht ho]
    refine ⟨?_, ?_, ?_, ?_⟩ <;> split <;> omega
  · exfalso
    unfold torn at e
    rw [if_neg (fun x => ho x.1), ext_nil, ByteArray.size_extract] at e
    omega

structure Inv (s : Sto) (c : Int) : Prop where
  made : s.made = true
  last : s.last = 0 ∨ s.last = 1
  a : Good s.a (c + 1)
  b : Good s.b (c + 1)
  old : Good s.old (c + 1)
  count : s.count = c
theorem Inv.short {s : Sto} {c : Int} (h : Inv s c) : s.short := ⟨by have := h.a.size; omega, by have := h.b.size; omega, by have := h.old.size; omega, h.made, h.last⟩
theorem Inv.pos {s : Sto} {c : Int} (h : Inv s c) : 0 ≤ c := by have := s.count_range; rw [h.count] at this; omega
def s0 : Sto := ⟨⟨#[]⟩, ⟨#[]⟩, 0, ⟨#[]⟩, true⟩
theorem inv0 : Inv s0 0 := ⟨rfl, .inl rfl, good_empty _, good_empty _, good_empty _, by unfold Sto.count s0; simp only [decV_empty]; decide⟩

/-- Behind a start: the slot that was written, the other. -/
theorem next_inv {s : Sto} {c : Int} (h : Inv s c) (hc : c ≤ 200) : Inv s.next (c + 1) ∧ ((if s.next.last = 1 then s.next.b else s.next.a).size : Int) = 12 ∧ (s.next.last = 1 → decV s.next.a = c) ∧ (s.next.last = 0 → decV s.next.b = c) ∧ s.next.a.size ≤ 12 := by
  have hp := h.pos
  have hcnt := h.count
  have ra := decV_range s.a
  have rb := decV_range s.b
  have hmx : max (decV s.a) (decV s.b) = c := hcnt
  have hrec := decV_rec (c + 1) (by omega) (by omega)
  have grec := good_rec (c + 1) (by omega) (by omega)
  unfold Sto.next
  rw [hcnt]
  split
  · rename_i e
    refine ⟨⟨h.made, .inr rfl, h.a.mono (by omega), grec.mono (by omega), h.b.mono (by omega), ?_⟩, ?_, fun _ => e.1, fun e => absurd e (show ¬ ((1 : Int) = 0) by decide), h.a.size⟩
    · show max (decV s.a) (decV (recS (c + 1))) = c + 1
      rw [hrec]; omega
    · simp only [if_true, rec_size]; rfl
  · rename_i e
    refine ⟨⟨h.made, .inl rfl, grec.mono (by omega), h.b.mono (by omega), h.a.mono (by omega), ?_⟩, ?_, fun e => absurd e (show ¬ ((0 : Int) = 1) by decide), fun _ => by show decV s.b = c; omega, by show (recS (c + 1)).size ≤ 12; rw [rec_size]; omega⟩
    · show max (decV (recS (c + 1))) (decV s.b) = c + 1
      rw [hrec]; omega
    · simp only [Int.zero_ne_one, if_false, reduceIte, rec_size]; rfl

theorem torn_inv {s : Sto} {c : Int} (h : Inv s c) (hc : c ≤ 200) (k : Nat) (hk : k < 12) : ∃ d, c ≤ d ∧ d ≤ c + 1 ∧ Inv (s.next.torn k) d := by
  have hp := h.pos
  have hcnt := h.count
  have ra := decV_range s.a
  have rb := decV_range s.b
  have hmx : max (decV s.a) (decV s.b) = c := hcnt
  have grec := good_rec (c + 1) (by omega) (by omega)
  unfold Sto.next
  rw [hcnt]
  split
  · rename_i e
    have gt := good_torn (recS (c + 1)) s.b k (c + 1) hk (rec_size _) grec h.b
    have dt := gt.dec (by omega)
    refine ⟨max c (decV (torn (recS (c + 1)) s.b k)), by omega, by omega, ?_⟩
    unfold Sto.torn
    rw [if_pos rfl]
    exact ⟨h.made, .inr rfl, h.a.mono (by omega), gt.mono (by omega), gt.mono (by omega), by show max (decV s.a) _ = _; rw [e.1]⟩
  · rename_i e
    have gt := good_torn (recS (c + 1)) s.a k (c + 1) hk (rec_size _) grec h.a
    have dt := gt.dec (by omega)
    have hb : decV s.b = c := by omega
    refine ⟨max c (decV (torn (recS (c + 1)) s.a k)), by omega, by omega, ?_⟩
    unfold Sto.torn
    rw [if_neg (show ¬ ((0 : Int) = 1) by decide)]
    exact ⟨h.made, .inl rfl, gt.mono (by omega), h.b.mono (by omega), gt.mono (by omega), by show max (decV (torn (recS (c + 1)) s.a k)) (decV s.b) = _; rw [hb]; exact Int.max_comm _ _⟩

/-- The chapter's example: three starts, the third torn behind five bytes. -/
theorem three : s0.next.next.next = ⟨recS 3, recS 2, 0, recS 1, true⟩ := by
  have e0 : s0.count = 0 := inv0.count
  have e1 : s0.next = ⟨recS 1, ⟨#[]⟩, 0, ⟨#[]⟩, true⟩ := by
    unfold Sto.next
    rw [if_neg (by rw [e0]; omega), e0]
    rfl
  have e2 : (⟨recS 1, ⟨#[]⟩, 0, ⟨#[]⟩, true⟩ : Sto).count = 1 := by
    unfold Sto.count
    simp only [decV_empty, decV_rec 1 (by omega) (by omega)]
    decide
  have e3 : (⟨recS 1, ⟨#[]⟩, 0, ⟨#[]⟩, true⟩ : Sto).next = ⟨recS 1, recS 2, 1, ⟨#[]⟩, true⟩ := by
    unfold Sto.next
    rw [if_pos ⟨by rw [e2]; exact decV_rec 1 (by omega) (by omega), by rw [e2]; omega⟩, e2]
    rfl
  have e4 : (⟨recS 1, recS 2, 1, ⟨#[]⟩, true⟩ : Sto).count = 2 := by
    unfold Sto.count
    simp only [decV_rec 1 (by omega) (by omega), decV_rec 2 (by omega) (by omega)]
    decide
  rw [e1, e3]
  unfold Sto.next
  rw [if_neg (by rw [e4]; show ¬ (decV (recS 1) = 2 ∧ _); rw [decV_rec 1 (by omega) (by omega)]; omega), e4]
  rfl
theorem torn_three : decV (torn (recS 3) (recS 1) 5) = 0 := by
  have hb := by4_torn (recS 3) (recS 1) 5 (by omega) (rec_size _) (rec_size _)
  have h7 : by4 (torn (recS 3) (recS 1) 5) 7 = 254 := by
    rw [hb, if_neg (by omega), by4_rec 1 (by omega) (by omega) 7 (by omega)]
    rfl
  have h3 : be4 (torn (recS 3) (recS 1) 5) = 3 := by
    unfold be4
    rw [hb, hb, hb, hb, if_pos (by omega), if_pos (by omega), if_pos (by omega), if_pos (by omega), by4_rec 3 (by omega) (by omega) 0 (by omega), by4_rec 3 (by omega) (by omega) 1 (by omega), by4_rec 3 (by omega) (by omega) 2 (by omega), by4_rec 3 (by omega) (by omega) 3 (by omega)]
    rfl
  unfold decV
  rw [h3]
  split
  · rw [if_neg]
    intro e
    rw [← e, by4_rec 3 (by omega) (by omega) 7 (by omega)] at h7
    exact absurd h7 (by decide)
  · rfl
def s3 : Sto := ⟨torn (recS 3) (recS 1) 5, recS 2, 0, torn (recS 3) (recS 1) 5, true⟩
theorem three_torn : s0.next.next.next.torn 5 = s3 := by
  rw [three]
  unfold Sto.torn
  rw [if_neg (by decide)]
  rfl
theorem s3_count : s3.count = 2 := by
  unfold Sto.count s3
  simp only [torn_three, decV_rec 2 (by omega) (by omega)]
  decide
theorem s3_short : s3.short := by
  have h := torn_size (recS 3) (recS 1) 5 (by omega) (rec_size _)
  exact ⟨by show (torn _ _ _).size ≤ _; omega, by show (recS 2).size ≤ _; rw [rec_size]; omega, by show (torn _ _ _).size ≤ _; omega, rfl, .inl rfl⟩
end Go.Proofs.YtebamcmcmojneaaDoor
