/- Chapter 31: the program's stand and the reference's go side by side. -/
import Derived.Test.YtffnjnkaefodlaaVa
import Derived.Test.YtffnjnkaefodlaaVr
set_option linter.unusedSimpArgs false
set_option linter.unusedVariables false
namespace Go.Proofs.Ytffnjnkaefodlaa

structure Rel (s : St) (r : Rs) : Prop where
  made : s.made = true
  code : s.code = r.code
  who : s.who = r.who
  on : s.on = r.on
  good : s.good = r.good
  s0 : r.s0 = false
  then_ : r.on = true → s.batch = r.batch ∧ s.own = r.s1 ∧ s.other = r.s2
  else_ : r.on = false → r.s1 = false ∧ r.s2 = false
  off : r.code ≠ 0 → r.on = false
  nobody : r.code = 0 → r.who = 0

theorem Rel.ready {s : St} {r : Rs} (h : Rel s r) : s.ready = if r.code = 0 then 0 else 33 := by simp [St.ready, h.made, h.code]
theorem Rel.begin_ {s : St} {r : Rs} (h : Rel s r) (b : Int) : (s.begin_ b).2 = (r.begin_ b).2 ∧ Rel (s.begin_ b).1 (r.begin_ b).1 := by
  have hr := h.ready
  unfold St.begin_ Rs.begin_
  by_cases h1 : r.code = 0
  · rw [if_neg (show ¬ s.ready ≠ 0 by rw [hr, if_pos h1]; decide), if_neg (show ¬ r.code ≠ 0 by simp [h1])]
    by_cases h2 : r.on = true
    · rw [if_pos (show s.on = true from h.on.trans h2), if_pos h2]; exact ⟨rfl, h⟩
    · rw [if_neg (show ¬ s.on = true by rw [h.on]; exact h2), if_neg h2]
      exact ⟨rfl, ⟨h.made, by simp [h.code, h1], by simp [h.who, h.nobody h1], rfl, h.good, rfl, fun _ => ⟨rfl, rfl, rfl⟩, by simp, by simp, by simp⟩⟩
  · rw [if_pos (show s.ready ≠ 0 by rw [hr, if_neg h1]; decide), if_pos (show r.code ≠ 0 from h1)]
    exact ⟨by rw [hr, if_neg h1], h⟩
theorem Rel.stop {s : St} {r : Rs} (h : Rel s r) (who code : Int) : Rel (s.stop who code) (r.stop who code) := by
  have hr := h.ready
  unfold St.stop Rs.stop
  by_cases h1 : r.code ≠ 0 ∨ code = 0
  · rw [if_pos h1, if_pos]
    · exact h
    · rcases h1 with h1 | h1
      · exact .inl (by rw [hr, if_neg h1]; decide)
      · exact .inr h1
  · rw [if_neg h1, if_neg]
    · simp only [not_or] at h1
      exact ⟨h.made, rfl, rfl, rfl, h.good, rfl, by simp, by simp, by simp, fun e => absurd e h1.2⟩
    · simp only [not_or, Decidable.not_not] at h1 ⊢
      exact ⟨by rw [hr, if_pos h1.1], h1.2⟩
theorem Rel.say {s : St} {r : Rs} (h : Rel s r) (who b code : Int) : (s.say who b code).2 = (r.say who b code).2 ∧ Rel (s.say who b code).1 (r.say who b code).1 := by
  have hr := h.ready
  have hst := h.stop who code
  unfold St.say Rs.say
  by_cases h1 : r.code = 0
  · rw [if_neg (show ¬ s.ready ≠ 0 by rw [hr, if_pos h1]; decide), if_neg (show ¬ r.code ≠ 0 by simp [h1])]
    by_cases h2 : who ≠ 1 ∧ who ≠ 2
    · rw [if_pos h2, if_pos h2]; exact ⟨rfl, h⟩
    rw [if_neg h2, if_neg h2]
    by_cases h3 : r.on = true
    · obtain ⟨e1, e2, e3⟩ := h.then_ h3
      by_cases h4 : b = r.batch
      · rw [if_neg (show ¬ (s.on = false ∨ b ≠ s.batch) by simp [h.on, h3, e1, h4]), if_neg (show ¬ (r.on = false ∨ b ≠ r.batch) by simp [h3, h4])]
        have hw : who = 1 ∨ who = 2 := by omega
        by_cases h5 : (if who = 1 then r.s1 else r.s2) = true
        · have hq : who = 1 ∧ s.own = true ∨ who = 2 ∧ s.other = true := by
            rcases hw with rfl | rfl
            · exact .inl ⟨rfl, by rw [e2]; simpa using h5⟩
            · exact .inr ⟨rfl, by rw [e3]; simpa using h5⟩
          rw [if_pos hq, if_pos h5]
          exact ⟨rfl, h⟩
        · have hq : ¬ (who = 1 ∧ s.own = true ∨ who = 2 ∧ s.other = true) := by
            rintro (⟨rfl, q⟩ | ⟨rfl, q⟩)
            · exact h5 (by simpa [e2] using q)
            · exact h5 (by simpa [e3] using q)
          rw [if_neg hq, if_neg h5]
          · by_cases h6 : code ≠ 0
            · rw [if_pos h6, if_pos h6]; exact ⟨rfl, hst⟩
            · rw [if_neg h6, if_neg h6]
              have hg := h.good
              have hm := h.made
              have hc := h.code
              have hwh := h.who
              have hn := h.nobody h1
              have h0 := h.s0
              have ho := h.on
              have e1 := e1
              rcases hw with rfl | rfl
              · simp at h5
                by_cases h7 : r.s2 = true
                · simp only [if_true]
                  rw [if_pos (show True ∧ s.other = true from ⟨trivial, by rw [e3]; exact h7⟩), if_pos (show True ∧ r.s2 = true from ⟨trivial, h7⟩)]
                  exact ⟨rfl, ⟨hm, by simp [hc, h1], by simp [hwh, hn], rfl, by simp [hg], rfl, by simp, by simp, by simp, by simp⟩⟩
                · simp only [if_true]
                  rw [if_neg (show ¬ (True ∧ s.other = true) by simp [e3, h7]), if_neg (show ¬ (True ∧ r.s2 = true) by simp [h7])]
                  exact ⟨rfl, ⟨hm, hc, hwh, ho, hg, h0, fun _ => ⟨e1, rfl, e3⟩, fun q => by simp [h3] at q, fun q => absurd h1 q, fun _ => hn⟩⟩
              · simp at h5
                by_cases h7 : r.s1 = true
                · simp only [show ¬ ((2 : Int) = 1) by decide, if_false]
                  rw [if_pos (show s.own = true ∧ True from ⟨by rw [e2]; exact h7, trivial⟩), if_pos (show r.s1 = true ∧ True from ⟨h7, trivial⟩)]
                  exact ⟨rfl, ⟨hm, by simp [hc, h1], by simp [hwh, hn], rfl, by simp [hg], rfl, by simp, by simp, by simp, by simp⟩⟩
                · simp only [show ¬ ((2 : Int) = 1) by decide, if_false]
                  rw [if_neg (show ¬ (s.own = true ∧ True) by simp [e2, h7]), if_neg (show ¬ (r.s1 = true ∧ True) by simp [h7])]
                  exact ⟨rfl, ⟨hm, hc, hwh, ho, hg, h0, fun _ => ⟨e1, e2, rfl⟩, fun q => by simp [h3] at q, fun q => absurd h1 q, fun _ => hn⟩⟩
      · rw [if_pos (show s.on = false ∨ b ≠ s.batch from .inr (by rw [e1]; exact h4)), if_pos (show r.on = false ∨ b ≠ r.batch from .inr h4)]; exact ⟨rfl, h⟩
    · rw [if_pos (show s.on = false ∨ b ≠ s.batch from .inl (by rw [h.on]; simpa using h3)), if_pos (show r.on = false ∨ b ≠ r.batch from .inl (by simpa using h3))]; exact ⟨rfl, h⟩
  · rw [if_pos (show s.ready ≠ 0 by rw [hr, if_neg h1]; decide), if_pos (show r.code ≠ 0 from h1)]
    exact ⟨by rw [hr, if_neg h1], h⟩

/-- What the askers tell. -/
theorem Rel.tells {s : St} {r : Rs} (h : Rel s r) : (s.ready == 0) = (r.code == 0) ∧ (s.on && ((1 : Int) == 1 && s.own || (1 : Int) == 2 && s.other)) = r.s1 ∧ (s.on && ((2 : Int) == 1 && s.own || (2 : Int) == 2 && s.other)) = r.s2 ∧
    (s.on && ((0 : Int) == 1 && s.own || (0 : Int) == 2 && s.other)) = false ∧ (if s.on = true then s.batch else 0) = (if r.on = true then r.batch else 0) := by
  refine ⟨?_, ?_, ?_, by simp, ?_⟩
  · rw [h.ready]
    by_cases e : r.code = 0 <;> simp [e]
  · rw [h.on]
    cases e : r.on
    · simp [(h.else_ e).1]
    · simp [(h.then_ e).2.1]
  · rw [h.on]
    cases e : r.on
    · simp [(h.else_ e).2]
    · simp [(h.then_ e).2.2]
  · rw [h.on]
    cases e : r.on
    · simp
    · simp [(h.then_ e).1]
end Go.Proofs.Ytffnjnkaefodlaa
