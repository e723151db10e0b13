/- The law BitmulComes: parts of lists, pick, the plain law. -/
import Derived.Test.YthkgjhjfgoglhaaTd
import Derived.StillTailTactics
import Derived.IntWalk
set_option linter.unusedSimpArgs false
set_option linter.unusedVariables false
namespace Go.Proofs.Ythkgjhjfgoglhaa
open Go.RowKit

theorem addr_add_add (g : Addr) (i j : Nat) : (g.add i).add j = g.add (i + j) := by
  by_cases hi : i = 0 <;> by_cases hj : j = 0 <;> simp [Addr.add, hi, hj, Nat.add_assoc]
def seg (l : List Bool) (k n : Nat) : List Bool := (l.drop k).take n
theorem seg_len {l : List Bool} {k n : Nat} (h : k + n ≤ l.length) : (seg l k n).length = n := by simp [seg]; omega
theorem seg_at {l : List Bool} {k n i : Nat} (h : k + n ≤ l.length) (hi : i < n) : lf (seg l k n) i = lf l (k + i) := by
  rw [lf_at (by rw [seg_len h]; exact hi), lf_at (by omega)]
  simp [seg]
theorem Reads.seg {w : World} {g : Addr} {m c : Nat} {l : List Bool} (h : Reads w (.slice (some g) m c) (bcellsB l)) {k n : Nat} (hk : k + n ≤ l.length) (c' : Nat) : Reads w (.slice (some (g.add k)) n c') (bcellsB (seg l k n)) := by
  refine ⟨_, c', by rw [bcellsB_length, seg_len hk], .inr ⟨g.add k, rfl, fun i x hx => ?_⟩⟩
  have hi : i < n := by
    have := (List.getElem?_eq_some_iff.1 hx).1
    rwa [bcellsB_length, seg_len hk] at this
  rw [addr_add_add]
  have h2 := bcellsB_at (l := Go.Proofs.Ythkgjhjfgoglhaa.seg l k n) (k := i) (by rw [seg_len hk]; exact hi)
  rw [h2] at hx
  obtain rfl := Option.some.inj hx
  rw [seg_at hk hi]
  exact h.at (bcellsB_at (by omega))
def pickB (b z o : Bool) : Bool := if b = true then o else z
theorem pick_any (w : World) (b z o : Bool) : Calls Try.prog 23 #[.bool b, .bool z, .bool o] w fun e w' => e = .returned (.bool (pickB b z o)) ∧ w' = w := by
  cases b
  all_goals
    go_enter Try.func23, Try.ntmps23
    go_wp2_with fail
    go_ret
    exact ⟨rfl, rfl⟩
theorem lf_xor {l m : List Bool} (h : l.length = m.length) (i : Nat) : lf (xorL l m) i = (lf l i ^^ lf m i) := (lf_zip (fun a b => a ^^ b) rfl h i).symm
theorem lf_and {l m : List Bool} (h : l.length = m.length) (i : Nat) : lf (andL l m) i = (lf l i && lf m i) := (lf_zip (fun a b => a && b) rfl h i).symm
def pickL (b z o : List Bool) (n : Nat) : List Bool := (List.range n).map fun i => pickB (lf b i) (lf z i) (lf o i)
theorem pickL_len (b z o : List Bool) (n : Nat) : (pickL b z o n).length = n := by simp [pickL]
theorem pickL_snoc (b z o : List Bool) (n : Nat) : pickL b z o (n + 1) = pickL b z o n ++ [pickB (lf b n) (lf z n) (lf o n)] := by simp [pickL, List.range_succ]
theorem lf_pick {b z o : List Bool} {n i : Nat} (h : i < n) : lf (pickL b z o n) i = pickB (lf b i) (lf z i) (lf o i) := by
  rw [lf_at (by rw [pickL_len]; exact h)]
  simp [pickL]
/-- What comes of it all. -/
structure Comes (n : Nat) (a b c d x0 x1 y0 y1 : List Bool) : Prop where
  s1 : sendC ⟨a, b, []⟩ x0 x1 = 0
  s2 : sendC ⟨c, d, []⟩ y0 y1 = 0
  z1 : sendZ ⟨a, b, []⟩ x0 x1 = x0
  z2 : sendZ ⟨c, d, []⟩ y0 y1 = y0
  r1 : recvC ⟨c, d, []⟩ (pickL c x0 x1 n) (sendF ⟨a, b, []⟩ x0 x1) = 0
  r2 : recvC ⟨a, b, []⟩ (pickL a y0 y1 n) (sendF ⟨c, d, []⟩ y0 y1) = 0
  f1 : finC ⟨a, b, []⟩ x0 (recvL ⟨a, b, []⟩ (pickL a y0 y1 n) (sendF ⟨c, d, []⟩ y0 y1)) = 0
  f2 : finC ⟨c, d, []⟩ y0 (recvL ⟨c, d, []⟩ (pickL c x0 x1 n) (sendF ⟨a, b, []⟩ x0 x1)) = 0
  w : ∃ l : List Bool, wrongM (finP ⟨a, b, []⟩ x0 (recvL ⟨a, b, []⟩ (pickL a y0 y1 n) (sendF ⟨c, d, []⟩ y0 y1))) (finP ⟨c, d, []⟩ y0 (recvL ⟨c, d, []⟩ (pickL c x0 x1 n) (sendF ⟨a, b, []⟩ x0 x1))) = some l ∧ l.length = n ∧ ∀ i, lf l i = false
  ls1 : (sendF ⟨a, b, []⟩ x0 x1).length = n
  ls2 : (sendF ⟨c, d, []⟩ y0 y1).length = n
  lr1 : (recvL ⟨c, d, []⟩ (pickL c x0 x1 n) (sendF ⟨a, b, []⟩ x0 x1)).length = n
  lr2 : (recvL ⟨a, b, []⟩ (pickL a y0 y1 n) (sendF ⟨c, d, []⟩ y0 y1)).length = n
  lf1 : (finP ⟨a, b, []⟩ x0 (recvL ⟨a, b, []⟩ (pickL a y0 y1 n) (sendF ⟨c, d, []⟩ y0 y1))).a.length = n ∧ (finP ⟨a, b, []⟩ x0 (recvL ⟨a, b, []⟩ (pickL a y0 y1 n) (sendF ⟨c, d, []⟩ y0 y1))).b.length = n ∧ (finP ⟨a, b, []⟩ x0 (recvL ⟨a, b, []⟩ (pickL a y0 y1 n) (sendF ⟨c, d, []⟩ y0 y1))).c.length = n
theorem comes_bit (a b c d x0 x1 y0 y1 : Bool) : (((a ^^ c) && (b ^^ d)) ^^ ((((a && b) ^^ x0) ^^ ((a && ((y0 ^^ y1) ^^ d)) ^^ pickB a y0 y1)) ^^ (((c && d) ^^ y0) ^^ ((c && ((x0 ^^ x1) ^^ b)) ^^ pickB c x0 x1)))) = false := by
  cases a <;> cases b <;> cases c <;> cases d <;> cases x0 <;> cases x1 <;> cases y0 <;> cases y1 <;> rfl
theorem xor_n {l m : List Bool} {n : Nat} (h : l.length = n) (k : m.length = n) : (xorL l m).length = n := (xorL_len (h.trans k.symm)).trans h
theorem and_n {l m : List Bool} {n : Nat} (h : l.length = n) (k : m.length = n) : (andL l m).length = n := (andL_len (h.trans k.symm)).trans h
theorem lfx {l m : List Bool} {n : Nat} (h : l.length = n) (k : m.length = n) (i : Nat) : lf (xorL l m) i = (lf l i ^^ lf m i) := lf_xor (h.trans k.symm) i
theorem lfa {l m : List Bool} {n : Nat} (h : l.length = n) (k : m.length = n) (i : Nat) : lf (andL l m) i = (lf l i && lf m i) := lf_and (h.trans k.symm) i
theorem sendF_eq {p : Pt} {x y : List Bool} {n : Nat} (g : goodB n = true) (hb : p.b.length = n) (hx : x.length = n) (hy : y.length = n) : sendF p x y = xorL (xorL x y) p.b ∧ sendZ p x y = x ∧ sendC p x y = 0 := by
  have h1 : goodB p.b.length = true := by rw [hb]; exact g
  exact ⟨by unfold sendF; rw [if_pos ⟨h1, hx.trans hy.symm, hx.trans hb.symm⟩], by unfold sendZ; rw [if_pos ⟨h1, hx.trans hy.symm, hx.trans hb.symm⟩], by unfold sendC; rw [if_pos h1, if_pos ⟨hx.trans hy.symm, hx.trans hb.symm⟩]⟩
theorem recv_eq {p : Pt} {x y : List Bool} {n : Nat} (g : goodB n = true) (ha : p.a.length = n) (hx : x.length = n) (hy : y.length = n) : recvL p x y = xorL (andL p.a y) x ∧ recvC p x y = 0 := by
  have h1 : goodB p.a.length = true := by rw [ha]; exact g
  exact ⟨by unfold recvL; rw [if_pos ⟨h1, ha.trans hy.symm, ha.trans hx.symm⟩], by unfold recvC; rw [if_pos h1, if_pos ⟨ha.trans hy.symm, ha.trans hx.symm⟩]⟩
theorem fin_eq {p : Pt} {x y : List Bool} {n : Nat} (g : goodB n = true) (ha : p.a.length = n) (hb : p.b.length = n) (hx : x.length = n) (hy : y.length = n) : finP p x y = ⟨p.a, p.b, xorL (xorL (andL p.a p.b) x) y⟩ ∧ finC p x y = 0 := by
  have h1 : goodB p.a.length = true := by rw [ha]; exact g
  have h2 : finOk p x y := ⟨ha.trans hb.symm, ha.trans hx.symm, ha.trans hy.symm⟩
  exact ⟨by unfold finP; rw [if_pos ⟨h1, h2⟩], by unfold finC; rw [if_pos h1, if_pos h2]⟩
theorem wrong_eq {a b c d s t : List Bool} {n : Nat} (ha : a.length = n) (hb : b.length = n) (hc : c.length = n) (hd : d.length = n) (hs : s.length = n) (ht : t.length = n) : wrongM ⟨a, b, s⟩ ⟨c, d, t⟩ = some (xorL (andL (xorL a c) (xorL b d)) (xorL s t)) := by
  unfold wrongM
  rw [if_pos ⟨ha.trans hc.symm, hb.trans hd.symm, hs.trans ht.symm, ha.trans hb.symm, ha.trans hs.symm⟩]
theorem lf_n {l : List Bool} {n i : Nat} (h : l.length = n) (hi : ¬ i < n) : lf l i = false := lf_far (by omega)
theorem comes_w {n : Nat} {a b c d x0 x1 y0 y1 : List Bool} (ha : a.length = n) (hb : b.length = n) (hc : c.length = n) (hd : d.length = n) (h1 : x0.length = n) (h2 : x1.length = n) (h3 : y0.length = n) (h4 : y1.length = n) (i : Nat) :
    lf (xorL (andL (xorL a c) (xorL b d)) (xorL (xorL (xorL (andL a b) x0) (xorL (andL a (xorL (xorL y0 y1) d)) (pickL a y0 y1 n))) (xorL (xorL (andL c d) y0) (xorL (andL c (xorL (xorL x0 x1) b)) (pickL c x0 x1 n))))) i = false := by
  have p1 := pickL_len c x0 x1 n
  have p2 := pickL_len a y0 y1 n
  have l1 := xor_n h1 h2
  have l2 := xor_n l1 hb
  have l3 := xor_n h3 h4
  have l4 := xor_n l3 hd
  have l5 := and_n hc l2
  have l6 := and_n ha l4
  have l7 := xor_n l5 p1
  have l8 := xor_n l6 p2
  have m1 := and_n ha hb
  have m2 := xor_n m1 h1
  have m3 := xor_n m2 l8
  have m4 := and_n hc hd
  have m5 := xor_n m4 h3
  have m6 := xor_n m5 l7
  rw [lfx (and_n (xor_n ha hc) (xor_n hb hd)) (xor_n m3 m6), lfa (xor_n ha hc) (xor_n hb hd), lfx ha hc, lfx hb hd, lfx m3 m6, lfx m2 l8, lfx m1 h1, lfa ha hb, lfx l6 p2, lfa ha l4, lfx l3 hd, lfx h3 h4, lfx m5 l7, lfx m4 h3, lfa hc hd, lfx l5 p1, lfa hc l2, lfx l1 hb, lfx h1 h2]
  by_cases hi : i < n
  · rw [lf_pick hi, lf_pick hi]
    exact comes_bit _ _ _ _ _ _ _ _
  · rw [lf_n ha hi, lf_n hb hi, lf_n hc hi, lf_n hd hi, lf_n h1 hi, lf_n h2 hi, lf_n h3 hi, lf_n h4 hi, lf_n p1 hi, lf_n p2 hi]
    rfl
theorem comes_of {n : Nat} {a b c d x0 x1 y0 y1 : List Bool} (hn : 1 ≤ n) (hn2 : n ≤ 200) (ha : a.length = n) (hb : b.length = n) (hc : c.length = n) (hd : d.length = n) (h1 : x0.length = n) (h2 : x1.length = n) (h3 : y0.length = n) (h4 : y1.length = n) : Comes n a b c d x0 x1 y0 y1 := by
  have g : goodB n = true := goodB_true.2 ⟨hn, Nat.le_trans hn2 (by decide)⟩
  have p1 := pickL_len c x0 x1 n
  have p2 := pickL_len a y0 y1 n
  obtain ⟨e1, z1, s1⟩ := sendF_eq (p := ⟨a, b, []⟩) g hb h1 h2
  obtain ⟨e2, z2, s2⟩ := sendF_eq (p := ⟨c, d, []⟩) g hd h3 h4
  have l2 := xor_n (xor_n h1 h2) hb
  have l4 := xor_n (xor_n h3 h4) hd
  obtain ⟨e3, r1⟩ := recv_eq (p := ⟨c, d, []⟩) g hc p1 l2
  obtain ⟨e4, r2⟩ := recv_eq (p := ⟨a, b, []⟩) g ha p2 l4
  have l7 := xor_n (and_n hc l2) p1
  have l8 := xor_n (and_n ha l4) p2
  obtain ⟨e5, f1⟩ := fin_eq (p := ⟨a, b, []⟩) g ha hb h1 l8
  obtain ⟨e6, f2⟩ := fin_eq (p := ⟨c, d, []⟩) g hc hd h3 l7
  have m3 := xor_n (xor_n (and_n ha hb) h1) l8
  have m6 := xor_n (xor_n (and_n hc hd) h3) l7
  simp only at e1 e2 e3 e4 e5 e6
  constructor
  · exact s1
  · exact s2
  · exact z1
  · exact z2
  · rw [e1]; exact r1
  · rw [e2]; exact r2
  · rw [e2, e4]; exact f1
  · rw [e1, e3]; exact f2
  · rw [e2, e4, e1, e3, e5, e6]
    exact ⟨_, wrong_eq ha hb hc hd m3 m6, xor_n (and_n (xor_n ha hc) (xor_n hb hd)) (xor_n m3 m6), comes_w ha hb hc hd h1 h2 h3 h4⟩
  · rw [e1]; exact l2
  · rw [e2]; exact l4
  · rw [e1, e3]; exact l7
  · rw [e2, e4]; exact l8
  · rw [e2, e4, e5]; exact ⟨ha, hb, m3⟩
end Go.Proofs.Ythkgjhjfgoglhaa
