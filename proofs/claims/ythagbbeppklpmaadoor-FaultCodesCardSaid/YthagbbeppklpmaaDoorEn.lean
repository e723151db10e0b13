/- Chapter 1, plain: the reference's nodes are the trees; how great they can be. -/
import Derived.Test.YthagbbeppklpmaaDoorErm
set_option linter.unusedSimpArgs false
set_option linter.unusedVariables false
namespace Go.Proofs.YthagbbeppklpmaaDoor
open Go.RowKit

def Same (ns : List Nd) (ts : List Tr) : Prop := ns.length = ts.length ∧ ∀ (i : Nat) (t : Tr), ts[i]? = some t → NodeT ns t i
theorem same_at {ns : List Nd} {ts : List Tr} (h : Same ns ts) (n : Int) : (kindN ns (atN ns n) = 0 ∧ getT ts n = .none) ∨ (kindN ns (atN ns n) ≠ 0 ∧ (getT ts n).some = true ∧ ∃ (j : Nat) (x : Nd), atN ns n = (j : Int) ∧ ns[j]? = some x ∧ NodeX ns (getT ts n) x ∧ ns.getD (atN ns n).toNat ⟨0, 0, noS, 0, 0⟩ = x) ∨ (kindN ns (atN ns n) = 0 ∧ (getT ts n).some = false) := by
  have hl := h.1
  unfold getT atN
  by_cases hn : 0 ≤ n ∧ n < ns.length
  · rw [if_pos hn, if_pos (by omega)]
    obtain ⟨j, rfl⟩ := Int.eq_ofNat_of_zero_le hn.1
    have hj : j < ts.length := by omega
    have e1 : ts.getD (Int.toNat (j : Int)) .none = ts[j] := by simp [List.getD_eq_getElem?_getD, List.getElem?_eq_getElem hj]
    rw [e1]
    obtain ⟨x, hx, hN⟩ := h.2 j _ (List.getElem?_eq_getElem hj)
    rw [kindN_at hx]
    by_cases hk : x.kind = 0
    · refine .inr (.inr ⟨hk, ?_⟩)
      have := hN.kind
      cases hb : ts[j].some
      · rfl
      · exact absurd hk (this.1 hb)
    · exact .inr (.inl ⟨hk, hN.kind.2 hk, j, x, rfl, hx, hN, by simp [List.getD_eq_getElem?_getD, hx]⟩)
  · rw [if_neg hn, if_neg (by omega)]
    refine .inl ⟨?_, rfl⟩
    unfold kindN
    rw [if_neg (by omega)]
theorem none_of {t : Tr} (h : t.some = false) : t = .none := by
  cases t <;> first | rfl | cases h
theorem same_at2 {ns : List Nd} {ts : List Tr} (h : Same ns ts) (n : Int) : (kindN ns (atN ns n) = 0 ∧ getT ts n = .none) ∨ (kindN ns (atN ns n) ≠ 0 ∧ (getT ts n).some = true ∧ ∃ (j : Nat) (x : Nd), atN ns n = (j : Int) ∧ ns[j]? = some x ∧ NodeX ns (getT ts n) x ∧ ns.getD (atN ns n).toNat ⟨0, 0, noS, 0, 0⟩ = x) := by
  rcases same_at h n with a | a | ⟨a, b⟩
  · exact .inl a
  · exact .inr a
  · exact .inl ⟨a, none_of b⟩
theorem step_same {ns : List Nd} {ts : List Tr} (h : Same ns ts) (s : Nd) : NodeX ns (stepT ts s) (stepN ns s) := by
  have ha := same_at2 h s.a
  have hb := same_at2 h s.b
  unfold stepT stepN
  by_cases h0 : s.kind = 0
  · rw [if_pos h0, if_pos h0]
    by_cases hc : s.code = 0
    · rw [if_pos hc, if_pos hc]; exact rfl
    · rw [if_neg hc, if_neg hc]; exact ⟨rfl, rfl, rfl⟩
  rw [if_neg h0, if_neg h0]
  by_cases h1 : s.kind = 1
  · rw [if_pos h1, if_pos h1]
    by_cases hc : s.code = 0
    · rw [if_pos hc, if_pos hc]; exact rfl
    · rw [if_neg hc, if_neg hc]; exact ⟨rfl, rfl⟩
  rw [if_neg h1, if_neg h1]
  by_cases h2 : s.kind = 2
  · rw [if_pos h2, if_pos h2]
    rcases ha with ⟨e, t⟩ | ⟨e, t, j, x, e1, hx, hN, -⟩
    · rw [if_pos e, t]; exact rfl
    · rw [if_neg e, if_pos t]
      exact ⟨rfl, rfl, t, j, x, e1, hx, hN⟩
  rw [if_neg h2, if_neg h2]
  by_cases h3 : s.kind = 3
  · rw [if_pos h3, if_pos h3]
    unfold bothT
    rcases ha with ⟨e, t⟩ | ⟨e, t, j, x, e1, hx, hN, hg⟩
    · rw [if_pos e, t, if_neg (by decide)]
      rcases hb with ⟨e', t'⟩ | ⟨e', t', j', x', e1', hx', hN', hg'⟩
      · rw [if_pos e', t']; exact rfl
      · rw [if_neg e', hg']; exact hN'
    · rw [if_neg e, if_pos t]
      rcases hb with ⟨e', t'⟩ | ⟨e', t', j', x', e1', hx', hN', hg'⟩
      · rw [if_pos e', t', if_neg (by decide), hg]; exact hN
      · rw [if_neg e', if_pos t']
        exact ⟨rfl, t, t', j, j', x, x', e1, e1', hx, hx', hN, hN'⟩
  · rw [if_neg h3, if_neg h3]; exact rfl
/-- Each node comes of those ahead of it. -/
def OrdN (ns : List Nd) : Prop := ∀ (i : Nat) (x : Nd), ns[i]? = some x → ((x.kind = 3 ∨ x.kind = 4) → ∃ j : Nat, x.a = (j : Int) ∧ j < i) ∧ (x.kind = 4 → ∃ j : Nat, x.b = (j : Int) ∧ j < i)
theorem step_ord {ns : List Nd} (h : OrdN ns) (s : Nd) : ((stepN ns s).kind = 3 ∨ (stepN ns s).kind = 4 → ∃ j : Nat, (stepN ns s).a = (j : Int) ∧ j < ns.length) ∧ ((stepN ns s).kind = 4 → ∃ j : Nat, (stepN ns s).b = (j : Int) ∧ j < ns.length) := by
  have hin : ∀ n, kindN ns (atN ns n) ≠ 0 → ∃ (j : Nat) (x : Nd), atN ns n = (j : Int) ∧ j < ns.length ∧ ns[j]? = some x ∧ ns.getD (atN ns n).toNat ⟨0, 0, noS, 0, 0⟩ = x := by
    intro n hn
    obtain ⟨j, x, e, hx, hg⟩ := kindN_in hn
    exact ⟨j, x, e, (List.getElem?_eq_some_iff.1 hx).1, hx, hg⟩
  have hz : ∀ c w k (a : Int), k ≠ 3 → k ≠ 4 → (((⟨k, c, w, a, 0⟩ : Nd).kind = 3 ∨ (⟨k, c, w, a, 0⟩ : Nd).kind = 4 → ∃ j : Nat, (⟨k, c, w, a, 0⟩ : Nd).a = (j : Int) ∧ j < ns.length) ∧ ((⟨k, c, w, a, 0⟩ : Nd).kind = 4 → ∃ j : Nat, (⟨k, c, w, a, 0⟩ : Nd).b = (j : Int) ∧ j < ns.length)) := by
    intro c w k a h3 h4
    exact ⟨fun h => by rcases h with h | h; exact absurd h h3; exact absurd h h4, fun h => absurd h h4⟩
  unfold stepN
  by_cases h0 : s.kind = 0
  · rw [if_pos h0]
    split
    · exact hz _ _ _ _ (by decide) (by decide)
    · exact hz _ _ _ _ (by decide) (by decide)
  rw [if_neg h0]
  by_cases h1 : s.kind = 1
  · rw [if_pos h1]
    split
    · exact hz _ _ _ _ (by decide) (by decide)
    · exact hz _ _ _ _ (by decide) (by decide)
  rw [if_neg h1]
  by_cases h2 : s.kind = 2
  · rw [if_pos h2]
    by_cases hk : kindN ns (atN ns s.a) = 0
    · rw [if_pos hk]; exact hz _ _ _ _ (by decide) (by decide)
    · rw [if_neg hk]
      obtain ⟨j, x, e, hj, -⟩ := hin _ hk
      exact ⟨fun _ => ⟨j, e, hj⟩, fun h => absurd h (show ¬ (3 : Int) = 4 by decide)⟩
  rw [if_neg h2]
  by_cases h3 : s.kind = 3
  · rw [if_pos h3]
    by_cases hk : kindN ns (atN ns s.a) = 0
    · rw [if_pos hk]
      by_cases hk2 : kindN ns (atN ns s.b) = 0
      · rw [if_pos hk2]; exact hz _ _ _ _ (by decide) (by decide)
      · rw [if_neg hk2]
        obtain ⟨j, x, e, hj, hx, hg⟩ := hin _ hk2
        rw [hg]
        obtain ⟨q1, q2⟩ := h j x hx
        exact ⟨fun h => by obtain ⟨i, e, hi⟩ := q1 h; exact ⟨i, e, by omega⟩, fun h => by obtain ⟨i, e, hi⟩ := q2 h; exact ⟨i, e, by omega⟩⟩
    · rw [if_neg hk]
      obtain ⟨j, x, e, hj, hx, hg⟩ := hin _ hk
      by_cases hk2 : kindN ns (atN ns s.b) = 0
      · rw [if_pos hk2, hg]
        obtain ⟨q1, q2⟩ := h j x hx
        exact ⟨fun h => by obtain ⟨i, e, hi⟩ := q1 h; exact ⟨i, e, by omega⟩, fun h => by obtain ⟨i, e, hi⟩ := q2 h; exact ⟨i, e, by omega⟩⟩
      · rw [if_neg hk2]
        obtain ⟨j', x', e', hj', -⟩ := hin _ hk2
        exact ⟨fun _ => ⟨j, e, hj⟩, fun _ => ⟨j', e', hj'⟩⟩
  · rw [if_neg h3]; exact hz _ _ _ _ (by decide) (by decide)
theorem getElem?_snoc {α : Type} {l : List α} {a x : α} {i : Nat} (h : (l ++ [a])[i]? = some x) : l[i]? = some x ∨ (i = l.length ∧ a = x) := by
  by_cases hi : i < l.length
  · rw [List.getElem?_append_left hi] at h; exact .inl h
  · rw [List.getElem?_append_right (by omega)] at h
    by_cases h0 : i - l.length = 0
    · rw [h0] at h
      exact .inr ⟨by omega, by simpa using h⟩
    · rw [List.getElem?_eq_none (by simp; omega)] at h; cases h
theorem nodes_same : ∀ (n : Nat) (l : List Nd), l.length = n → Same (madeN l) (madeT l) ∧ OrdN (madeN l)
  | 0, l, h => by
    obtain rfl := List.eq_nil_of_length_eq_zero h
    exact ⟨⟨rfl, fun i t h => by cases h⟩, fun i x h => by cases h⟩
  | n + 1, l, h => by
    rcases List.eq_nil_or_concat l with rfl | ⟨r, s, rfl⟩
    · cases h
    obtain ⟨hs, ho⟩ := nodes_same n r (by simpa using h)
    rw [List.concat_eq_append, madeN_snoc, madeT_snoc]
    refine ⟨⟨by simp [hs.1], fun i t ht => ?_⟩, fun i x hx => ?_⟩
    · rcases getElem?_snoc ht with ht | ⟨rfl, rfl⟩
      · obtain ⟨x, hx, hN⟩ := hs.2 i t ht
        exact ⟨x, getElem?_pre hx, hN.mono⟩
      · exact ⟨_, by rw [← hs.1]; simp, (step_same hs s).mono⟩
    · rcases getElem?_snoc hx with hx | ⟨rfl, rfl⟩
      · exact ho i x hx
      · exact step_ord ho s

/-- How great a tree can be that is made of a step at place i. -/
structure Fit (i : Nat) (t : Tr) : Prop where
  txt : t.txt.size + 202 ≤ 600 * 2 ^ i
  codes : t.codes.length ≤ 2 ^ i
  path : t.path.length ≤ i + 1
theorem Fit.up {i j : Nat} {t : Tr} (h : Fit j t) (hj : j ≤ i) : Fit i t := by
  have := Nat.pow_le_pow_right (show 0 < 2 by decide) hj
  exact ⟨by have := h.txt; omega, by have := h.codes; omega, by have := h.path; omega⟩
theorem fit_step {ts : List Tr} (h : ∀ (j : Nat) (t : Tr), ts[j]? = some t → Fit j t) (s : Nd) (hs : s.wh.size ≤ 200) : Fit ts.length (stepT ts s) := by
  have h1 := Nat.one_le_two_pow (n := ts.length)
  have hnone : Fit ts.length .none := ⟨by show 0 + 202 ≤ _; omega, by show 0 ≤ _; omega, by show 0 ≤ _; omega⟩
  have hget : ∀ n, getT ts n = .none ∨ ∃ j, j < ts.length ∧ Fit j (getT ts n) := by
    intro n
    unfold getT
    by_cases hn : 0 ≤ n ∧ n < ts.length
    · rw [if_pos hn]
      have hj : n.toNat < ts.length := by omega
      exact .inr ⟨n.toNat, hj, h _ _ (by simp [List.getD_eq_getElem?_getD, List.getElem?_eq_getElem hj])⟩
    · rw [if_neg hn]; exact .inl rfl
  have hfit : ∀ n, Fit ts.length (getT ts n) := by
    intro n
    rcases hget n with e | ⟨j, hj, hf⟩
    · rw [e]; exact hnone
    · exact hf.up (by omega)
  have hpow : ∀ j, j < ts.length → 2 * 2 ^ j ≤ 2 ^ ts.length := by
    intro j hj
    have := Nat.pow_le_pow_right (show 0 < 2 by decide) (show j + 1 ≤ ts.length by omega)
    rw [Nat.pow_succ] at this
    omega
  unfold stepT
  split
  · split
    · exact hnone
    · refine ⟨?_, ?_, ?_⟩
      · show (s.wh ++ colon ++ word s.code).size + 202 ≤ _
        rw [ByteArray.size_append, ByteArray.size_append]
        have := word_size s.code
        have : colon.size = 2 := rfl
        omega
      · show 1 ≤ _; omega
      · show 1 ≤ _; omega
  split
  · split
    · exact hnone
    · refine ⟨?_, ?_, ?_⟩
      · show (word s.code).size + 202 ≤ _
        have := word_size s.code
        omega
      · show 1 ≤ _; omega
      · show 0 ≤ _; omega
  split
  · rcases hget s.a with e | ⟨j, hj, hf⟩
    · rw [e]; exact hnone
    · have := hpow j hj
      have p1 := Nat.one_le_two_pow (n := j)
      split
      · refine ⟨?_, ?_, ?_⟩
        · show (s.wh ++ colon ++ (getT ts s.a).txt).size + 202 ≤ _
          rw [ByteArray.size_append, ByteArray.size_append]
          have := hf.txt
          have : colon.size = 2 := rfl
          omega
        · show (getT ts s.a).codes.length ≤ _
          have := hf.codes
          omega
        · show (getT ts s.a).path.length + 1 ≤ _
          have := hf.path
          omega
      · exact hnone
  split
  · unfold bothT
    split
    · split
      · rcases hget s.a with e | ⟨j, hj, hf⟩
        · rename_i q _; rw [e] at q; cases q
        · rcases hget s.b with e | ⟨j', hj', hf'⟩
          · rename_i q; rw [e] at q; cases q
          · have := hpow j hj
            have := hpow j' hj'
            refine ⟨?_, ?_, ?_⟩
            · show ((getT ts s.a).txt ++ semi ++ (getT ts s.b).txt).size + 202 ≤ _
              rw [ByteArray.size_append, ByteArray.size_append]
              have := hf.txt
              have := hf'.txt
              have : semi.size = 2 := rfl
              omega
            · show ((getT ts s.a).codes ++ (getT ts s.b).codes).length ≤ _
              rw [List.length_append]
              have := hf.codes
              have := hf'.codes
              omega
            · show 0 ≤ _; omega
      · exact hfit _
    · exact hfit _
  · exact hnone
theorem made_fit : ∀ (n : Nat) (l : List Nd), l.length = n → (∀ s ∈ l, s.wh.size ≤ 200) → ∀ (j : Nat) (t : Tr), (madeT l)[j]? = some t → Fit j t
  | 0, l, h, _ => by
    obtain rfl := List.eq_nil_of_length_eq_zero h
    intro j t ht; cases ht
  | n + 1, l, h, hs => by
    rcases List.eq_nil_or_concat l with rfl | ⟨r, s, rfl⟩
    · cases h
    rw [List.concat_eq_append] at hs ⊢
    have ih := made_fit n r (by simpa using h) (fun x hx => hs x (by simp [hx]))
    rw [madeT_snoc]
    intro j t ht
    rcases getElem?_snoc ht with ht | ⟨rfl, rfl⟩
    · exact ih j t ht
    · exact fit_step ih s (hs s (by simp))
end Go.Proofs.YthagbbeppklpmaaDoor
