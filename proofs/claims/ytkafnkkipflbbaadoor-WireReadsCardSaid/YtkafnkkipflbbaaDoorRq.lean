/- wire.Reader told by how many bytes are read, and the first fault's number. -/
import Derived.Test.YtkafnkkipflbbaaDoorMq
set_option linter.unusedSimpArgs false
set_option linter.unusedVariables false
namespace Go.Proofs.YtkafnkkipflbbaaDoor
open Go.RowKit Go.Lib

/-- A state with names, and one without. -/
def Rs8.is (r : Rs8) (q : Q8) : Prop := r.at_ = q.at_ ∧ match r.err with
  | none => q.e = 0
  | some x => x.2 = q.e ∧ x.2 ≠ 0
def RQ (w : World) (p : Nat) (s : ByteArray) (q : Q8) : Prop := ∃ r, RS w p s r ∧ r.is q
theorem Rs8.is_none {a : Nat} {q : Q8} (h : Rs8.is ⟨a, none⟩ q) : q = ⟨a, 0⟩ := by
  obtain ⟨b, e⟩ := q
  obtain ⟨h1, h2⟩ := h
  have h1 : a = b := h1
  have h2 : e = 0 := h2
  rw [h1, h2]
theorem Rs8.is_some {a : Nat} {x : List ByteArray × Int} {q : Q8} (h : Rs8.is ⟨a, some x⟩ q) : q = ⟨a, x.2⟩ ∧ x.2 ≠ 0 := by
  obtain ⟨b, e⟩ := q
  obtain ⟨h1, h2, h3⟩ := h
  have h1 : a = b := h1
  have h2 : x.2 = e := h2
  rw [h1, ← h2]
  exact ⟨rfl, h3⟩
theorem Rs8.is_fail {r : Rs8} {q : Q8} (h : r.is q) (f : ByteArray) (c : Int) (hc : c ≠ 0) : (r.fail f c).is (q.fail c) := by
  obtain ⟨a, e⟩ := r
  cases e with
  | none =>
    obtain rfl := Rs8.is_none h
    unfold Q8.fail Rs8.fail
    exact ⟨rfl, rfl, hc⟩
  | some x =>
    obtain ⟨rfl, h2⟩ := Rs8.is_some h
    unfold Q8.fail Rs8.fail
    rw [if_neg h2]
    exact ⟨rfl, rfl, h2⟩
theorem Rs8.is_take {r : Rs8} {q : Q8} (h : r.is q) (s f : ByteArray) (n : Nat) : (r.take s f n).1.is (q.take s n).1 ∧ (r.take s f n).2 = (q.take s n).2 := by
  obtain ⟨a, e⟩ := r
  cases e with
  | none =>
    obtain rfl := Rs8.is_none h
    unfold Q8.take Rs8.take
    simp only [ne_eq, not_true, if_false]
    split
    · exact ⟨⟨rfl, rfl, show (12 : Int) ≠ 0 by decide⟩, rfl⟩
    · exact ⟨⟨rfl, rfl⟩, rfl⟩
  | some x =>
    obtain ⟨rfl, h2⟩ := Rs8.is_some h
    unfold Q8.take Rs8.take
    rw [if_pos h2]
    exact ⟨⟨rfl, rfl, h2⟩, rfl⟩
theorem Rs8.is_number {r : Rs8} {q : Q8} (h : r.is q) (s f : ByteArray) (n : Nat) : (r.number s f n).1.is (q.number s n).1 ∧ (r.number s f n).2 = (q.number s n).2 := by
  obtain ⟨h1, h2⟩ := Rs8.is_take h s f n
  exact ⟨h1, by unfold Rs8.number Q8.number; rw [h2]⟩

theorem RQ.only {w w' : World} {p : Nat} {s : ByteArray} {q : Q8} {S : Nat → Prop} (h : RQ w p s q) (o : Only S w w') (hp : ¬ S p) (hS : ∀ k cs, Has w k 56 cs → ¬ S k) : RQ w' p s q := by
  obtain ⟨r, h1, h2⟩ := h
  exact ⟨r, h1.only o hp hS, h2⟩
theorem RQ.inner {w w' : World} {p : Nat} {s : ByteArray} {q : Q8} (h : RQ w p s q) (o : Only (fun _ => False) w w') : RQ w' p s q := h.only o (fun f => f) (fun _ _ _ f => f)
theorem RQ.atLe {w : World} {p : Nat} {s : ByteArray} {q : Q8} (h : RQ w p s q) : q.at_ ≤ s.size := by
  obtain ⟨r, ⟨e, h1, h2, h3⟩, h4⟩ := h
  rw [← h4.1]
  exact h2
theorem RQ.lt {w : World} {p : Nat} {s : ByteArray} {q : Q8} (h : RQ w p s q) : p < w.heap.size := by
  obtain ⟨r, ⟨e, h1, h2, h3⟩, h4⟩ := h
  exact h1.lt
theorem RQ.apart {w : World} {p k : Nat} {s : ByteArray} {q : Q8} {t : TypeId} {cs : Array Value} (h : RQ w p s q) (hk : Has w k t cs) (ht : 45 ≠ t) : p ≠ k := by
  obtain ⟨r, ⟨e, h1, h2, h3⟩, h4⟩ := h
  exact h1.apart hk ht
/-- Where there was no fault. -/
theorem RQ.whole {w : World} {p : Nat} {s : ByteArray} {q : Q8} (h : RQ w p s q) (he : q.e = 0) : RAt w p s q.at_ none := by
  obtain ⟨⟨a, r⟩, ⟨e, h1, h2, h3⟩, h4⟩ := h
  cases r with
  | none =>
    obtain rfl := Rs8.is_none h4
    obtain rfl : e = none := h3
    exact h1
  | some x =>
    obtain ⟨rfl, h5⟩ := Rs8.is_some h4
    exact absurd he h5
theorem RQ.had {w : World} {p : Nat} {s : ByteArray} {q : Q8} (h : RQ w p s q) (he : q.e ≠ 0) : ∃ b l, RAt w p s q.at_ (some b) ∧ ErrAt w (some b) l q.e := by
  obtain ⟨⟨a, r⟩, ⟨e, h1, h2, h3⟩, h4⟩ := h
  cases r with
  | none =>
    obtain rfl := Rs8.is_none h4
    exact absurd rfl he
  | some x =>
    obtain ⟨rfl, h5⟩ := Rs8.is_some h4
    obtain ⟨h6, h7⟩ := h3
    cases e with
    | none => exact absurd rfl h6
    | some b => exact ⟨b, x.1, h1, h7⟩
theorem RQ.mk_whole {w : World} {p a : Nat} {s : ByteArray} (h : RAt w p s a none) (ha : a ≤ s.size) : RQ w p s ⟨a, 0⟩ := ⟨⟨a, none⟩, ⟨none, h, ha, rfl⟩, rfl, rfl⟩
theorem RQ.mk_had {w : World} {p a b : Nat} {s : ByteArray} {l : List ByteArray} {c : Int} (h : RAt w p s a (some b)) (ha : a ≤ s.size) (he : ErrAt w (some b) l c) (hc : c ≠ 0) : RQ w p s ⟨a, c⟩ :=
  ⟨⟨a, some (l, c)⟩, ⟨some b, h, ha, by simp, he⟩, rfl, rfl, hc⟩
/-- The place is put back. -/
theorem RQ.back {w : World} {p : Nat} {s : ByteArray} {q : Q8} (h : RQ w p s q) (a : Nat) (ha : a ≤ s.size) : RQ (w.setCell ⟨p, 1, none⟩ (.int .i64 (a : Int))) p s ⟨a, q.e⟩ := by
  by_cases he : q.e = 0
  · rw [he]
    exact RQ.mk_whole ((h.whole he).put 1 _ rfl) ha
  · obtain ⟨b, l, h1, h2⟩ := h.had he
    exact RQ.mk_had (h1.put 1 _ rfl) ha (h1.errs ((Only.refl (· = p) w).setCell ⟨p, 1, none⟩ _ (fun _ => rfl)) h2) he

theorem rq_fail (w : World) (p : Nat) (s f : ByteArray) (q : Q8) (c : Int) (hc : c ≠ 0) (h : RQ w p s q) : Calls Tryd.prog 21 #[.pointer (some ⟨p, 0, none⟩), .string f, .int .i64 c] w fun x w' =>
    x = .returned (.tuple #[]) ∧ RQ w' p s (q.fail c) ∧ Only (· = p) w w' := by
  obtain ⟨r, h1, h2⟩ := h
  refine (fail_any w p s f r c hc h1).mono ?_
  rintro x w' ⟨rfl, h3, o⟩
  exact ⟨rfl, ⟨_, h3, Rs8.is_fail h2 f c hc⟩, o⟩
theorem rq_take (w : World) (p : Nat) (s f : ByteArray) (q : Q8) (n : Nat) (hs : s.size ≤ 140737488351232) (hn : n ≤ 4611686018427387904) (h : RQ w p s q) : Calls Tryd.prog 19 #[.pointer (some ⟨p, 0, none⟩), .string f, .int .i64 n] w fun x w' =>
    x = .returned (.string (q.take s n).2) ∧ RQ w' p s (q.take s n).1 ∧ Only (· = p) w w' := by
  obtain ⟨r, h1, h2⟩ := h
  obtain ⟨h4, h5⟩ := Rs8.is_take h2 s f n
  refine (take_any w p s f r n hs hn h1).mono ?_
  rintro x w' ⟨rfl, h3, o⟩
  exact ⟨by rw [h5], ⟨_, h3, h4⟩, o⟩
theorem rq_number (w : World) (p : Nat) (s f : ByteArray) (q : Q8) (n : Nat) (hs : s.size ≤ 140737488351232) (hn : n ≤ 8) (h : RQ w p s q) : Calls Tryd.prog 16 #[.pointer (some ⟨p, 0, none⟩), .string f, .int .i64 n] w fun x w' =>
    x = .returned (.int .u64 (q.number s n).2) ∧ RQ w' p s (q.number s n).1 ∧ Only (· = p) w w' := by
  obtain ⟨r, h1, h2⟩ := h
  obtain ⟨h4, h5⟩ := Rs8.is_number h2 s f n
  refine (number_any w p s f r n hs hn h1).mono ?_
  rintro x w' ⟨rfl, h3, o⟩
  exact ⟨by rw [h5], ⟨_, h3, h4⟩, o⟩
theorem rq_u8 (w : World) (p : Nat) (s f : ByteArray) (q : Q8) (hs : s.size ≤ 140737488351232) (h : RQ w p s q) : Calls Tryd.prog 23 #[.pointer (some ⟨p, 0, none⟩), .string f] w fun x w' =>
    x = .returned (.int .u8 (q.number s 1).2) ∧ RQ w' p s (q.number s 1).1 ∧ Only (· = p) w w' := by
  obtain ⟨r, h1, h2⟩ := h
  obtain ⟨h4, h5⟩ := Rs8.is_number h2 s f 1
  refine (ru8_any w p s f r hs h1).mono ?_
  rintro x w' ⟨rfl, h3, o⟩
  exact ⟨by rw [h5], ⟨_, h3, h4⟩, o⟩
theorem rq_u32 (w : World) (p : Nat) (s f : ByteArray) (q : Q8) (hs : s.size ≤ 140737488351232) (h : RQ w p s q) : Calls Tryd.prog 24 #[.pointer (some ⟨p, 0, none⟩), .string f] w fun x w' =>
    x = .returned (.int .u32 (q.number s 4).2) ∧ RQ w' p s (q.number s 4).1 ∧ Only (· = p) w w' := by
  obtain ⟨r, h1, h2⟩ := h
  obtain ⟨h4, h5⟩ := Rs8.is_number h2 s f 4
  refine (ru32_any w p s f r hs h1).mono ?_
  rintro x w' ⟨rfl, h3, o⟩
  exact ⟨by rw [h5], ⟨_, h3, h4⟩, o⟩
theorem rq_u64 (w : World) (p : Nat) (s f : ByteArray) (q : Q8) (hs : s.size ≤ 140737488351232) (h : RQ w p s q) : Calls Tryd.prog 7 #[.pointer (some ⟨p, 0, none⟩), .string f] w fun x w' =>
    x = .returned (.int .u64 (q.number s 8).2) ∧ RQ w' p s (q.number s 8).1 ∧ Only (· = p) w w' := by
  obtain ⟨r, h1, h2⟩ := h
  obtain ⟨h4, h5⟩ := Rs8.is_number h2 s f 8
  refine (ru64_any w p s f r hs h1).mono ?_
  rintro x w' ⟨rfl, h3, o⟩
  exact ⟨by rw [h5], ⟨_, h3, h4⟩, o⟩
theorem rq_err0 (w : World) (p : Nat) (s : ByteArray) (q : Q8) (he : q.e = 0) (h : RQ w p s q) : Calls Tryd.prog 8 #[.pointer (some ⟨p, 0, none⟩)] w fun x w' => x = .returned .nilIface ∧ w = w' := by
  refine (err_any w p s _ none (h.whole he)).mono ?_
  rintro x w' ⟨rfl, rfl⟩
  exact ⟨rfl, rfl⟩
theorem rq_err (w : World) (p : Nat) (s : ByteArray) (q : Q8) (he : q.e ≠ 0) (h : RQ w p s q) : Calls Tryd.prog 8 #[.pointer (some ⟨p, 0, none⟩)] w fun x w' => ∃ b l, x = .returned (.iface 53 (.pointer (some ⟨b, 0, none⟩))) ∧ ErrAt w (some b) l q.e ∧ w = w' := by
  obtain ⟨b, l, h1, h2⟩ := h.had he
  refine (err_any w p s _ (some b) h1).mono ?_
  rintro x w' ⟨rfl, rfl⟩
  exact ⟨b, l, rfl, h2, rfl⟩
end Go.Proofs.YtkafnkkipflbbaaDoor
