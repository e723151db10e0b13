/- Chapter 1: steps, what is made of them. Printed by gen_mk.py. -/
import Derived.Test.YthagbbeppklpmaaDoorEh
import Derived.Test.YthagbbeppklpmaaDoorArg
set_option linter.unusedSimpArgs false
set_option linter.unusedVariables false
namespace Go.Proofs.YthagbbeppklpmaaDoor
open Go.RowKit

/-- A step, or a node of the reference's list. -/
structure Nd where
  kind : Int
  code : Int
  wh : ByteArray
  a : Int
  b : Int
def SlN (w : World) (v : Value) (l : List Nd) : Prop := ∃ A c, v = .slice A l.length c ∧ ∀ i, (h : i < l.length) → ∃ ad, A = some ad ∧ w.cell? (ad.add (i * 5)) = some (.int .i64 l[i].kind) ∧ w.cell? (ad.add (i * 5 + 1)) = some (.int .i64 l[i].code) ∧ w.cell? (ad.add (i * 5 + 2)) = some (.string l[i].wh) ∧ w.cell? (ad.add (i * 5 + 3)) = some (.int .i64 l[i].a) ∧ w.cell? (ad.add (i * 5 + 4)) = some (.int .i64 l[i].b)
theorem SlN.only {w w' : World} {v : Value} {l : List Nd} (h : SlN w v l) (o : Only (fun _ => False) w w') : SlN w' v l := by
  obtain ⟨A, c, e, hc⟩ := h
  refine ⟨A, c, e, fun i hi => ?_⟩
  obtain ⟨ad, ha, x0, x1, x2, x3, x4⟩ := hc i hi
  exact ⟨ad, ha, o.cell x0 (fun f => f), o.cell x1 (fun f => f), o.cell x2 (fun f => f), o.cell x3 (fun f => f), o.cell x4 (fun f => f)⟩
/-- The tree that a step means; none of those that aren't there. -/
def getT (ts : List Tr) (n : Int) : Tr := if 0 ≤ n ∧ n < ts.length then ts.getD n.toNat .none else .none
def bothT (x y : Tr) : Tr := if x.some = true then (if y.some = true then .both x y else x) else y
def stepT (ts : List Tr) (s : Nd) : Tr :=
  if s.kind = 0 then (if s.code = 0 then .none else .root s.code s.wh)
  else if s.kind = 1 then (if s.code = 0 then .none else .num s.code)
  else if s.kind = 2 then (if (getT ts s.a).some = true then .wrap s.wh (getT ts s.a) else .none)
  else if s.kind = 3 then bothT (getT ts s.a) (getT ts s.b)
  else .none
def madeT (l : List Nd) : List Tr := l.foldl (fun ts s => ts ++ [stepT ts s]) []
theorem madeT_snoc (l : List Nd) (s : Nd) : madeT (l ++ [s]) = madeT l ++ [stepT (madeT l) s] := by simp [madeT, List.foldl_append]
theorem madeT_take (l : List Nd) (k : Nat) (h : k < l.length) : madeT (l.take (k + 1)) = madeT (l.take k) ++ [stepT (madeT (l.take k)) l[k]] := by
  rw [List.take_succ_eq_append_getElem h, madeT_snoc]
theorem madeT_length : ∀ l : List Nd, (madeT l).length = l.length := by
  intro l
  have : ∀ (l : List Nd) (ts : List Tr), (l.foldl (fun ts s => ts ++ [stepT ts s]) ts).length = ts.length + l.length := by
    intro l
    induction l with
    | nil => intro ts; rfl
    | cons s l ih => intro ts; rw [List.foldl_cons, ih]; simp; omega
  have := this l []
  simpa [madeT] using this

def AllT (W : World) (av : Option Nat) (ts : List Tr) (vs : List Value) : Prop := ts.length = vs.length ∧ ∀ (j : Nat) (t : Tr) (v : Value), ts[j]? = some t → vs[j]? = some v → TrAt W av t v
theorem TrAt.move {W W1 : World} {av av' : Option Nat} (o : Only (fun j => some j = av) W W1) (hav : av' = av ∨ ∃ n, av' = some n ∧ W.heap.size ≤ n) (h1 : ∀ k cs, Has W k 63 cs → some k ≠ av) (h2 : ∀ k cs, Has W k 93 cs → some k ≠ av) :
    ∀ {t : Tr} {v : Value}, TrAt W av t v → TrAt W1 av' t v
  | .none, _, h => h
  | .root c s, _, ⟨b, e, h⟩ => ⟨b, e, o.has h (h1 _ _ h)⟩
  | .num c, _, h => h
  | .wrap s t, _, ⟨b, u, e, h, hs, ht⟩ => ⟨b, u, e, o.has h (h1 _ _ h), hs, ht.move o hav h1 h2⟩
  | .both x y, _, ⟨b, g, n, u1, u2, e, h, hg, hne, hx, hy, tx, ty⟩ => ⟨b, g, n, u1, u2, e, o.has h (h2 _ _ h), hg.only o (fun cs hc => hne), (by
      rcases hav with rfl | ⟨m, rfl, hm⟩
      · exact hne
      · intro e; have := hg.lt; obtain rfl := Option.some.inj e; omega), hx, hy, tx.move o hav h1 h2, ty.move o hav h1 h2⟩
theorem AllT.app {W W1 : World} {base k : Nat} {u v1 e : Value} {vs : List Value} {ts : List Tr} {t : Tr} {o : Obj} (h : AllT W u.ownBlock ts vs) (hE : TrAt W u.ownBlock t e) (own : W.ownsRow base 32 1 u k vs) (hg : (W.alloc o).grownBy W1 u.ownBlock)
    (hat : v1.ownBlock = u.ownBlock ∨ v1.ownBlock = some (W.alloc o).heap.size) : AllT W1 v1.ownBlock (ts ++ [t]) (vs ++ [e]) := by
  have o1 : Only (fun j => some j = u.ownBlock) W W1 := Only.grown ((Only.refl _ _).alloc _) hg (fun j e hj => e.symm)
  have hav : v1.ownBlock = u.ownBlock ∨ ∃ n, v1.ownBlock = some n ∧ W.heap.size ≤ n := by
    rcases hat with e | e
    · exact .inl e
    · exact .inr ⟨_, e, by simp⟩
  have f1 : ∀ k cs, Has W k 63 cs → some k ≠ u.ownBlock := fun k cs hk e => own_apart own hk (by decide) e.symm
  have f2 : ∀ k cs, Has W k 93 cs → some k ≠ u.ownBlock := fun k cs hk e => own_apart own hk (by decide) e.symm
  refine ⟨by simp [h.1], fun j t' v' ht hv => ?_⟩
  by_cases hj : j < ts.length
  · rw [List.getElem?_append_left hj] at ht
    rw [List.getElem?_append_left (by rw [← h.1]; exact hj)] at hv
    exact (h.2 j t' v' ht hv).move o1 hav f1 f2
  · rw [List.getElem?_append_right (by omega)] at ht
    rw [List.getElem?_append_right (by rw [← h.1]; omega), ← h.1] at hv
    by_cases h0 : j - ts.length = 0
    · rw [h0] at ht hv
      simp at ht hv
      subst ht
      subst hv
      exact hE.move o1 hav f1 f2
    · rw [List.getElem?_eq_none (by simp; omega)] at ht
      cases ht
theorem inr_of {W W' : World} {k : Nat} {A : Option Addr} {v : Value} {n : Int} (h : (∃ g j : Nat, A = some ⟨g, 0, none⟩ ∧ n = (j : Int) ∧ (j : Int) < (k : Int) ∧ W.cell? ⟨g, j, none⟩ = some v ∧ g < W.heap.size) ∨ (v = .nilIface ∧ (¬ 0 ≤ n ∨ (0 ≤ n ∧ ¬ n < (k : Int))))) (o : Only (fun _ => False) W W') :
    ∃ b : Bool, (b = true → ∃ g j : Nat, A = some ⟨g, 0, none⟩ ∧ n = (j : Int) ∧ (j : Int) < (k : Int) ∧ W'.cell? ⟨g, j, none⟩ = some v ∧ g < W'.heap.size) ∧ (b = false → v = .nilIface ∧ (¬ 0 ≤ n ∨ (0 ≤ n ∧ ¬ n < (k : Int)))) := by
  rcases h with ⟨g, j, a, b, c, e, f⟩ | ⟨a, b⟩
  · exact ⟨true, fun _ => ⟨g, j, a, b, c, o.cell e (fun f => f), Nat.lt_of_lt_of_le f o.size⟩, fun h => by cases h⟩
  · exact ⟨false, (fun h => by cases h), fun _ => ⟨a, b⟩⟩
theorem TrAt.form {w : World} {av : Option Nat} {t : Tr} {v : Value} (h : TrAt w av t v) : v = .nilIface ∨ ∃ T x, v = .iface T x := by
  by_cases hs : t.some = true
  · exact .inr (h.iface hs)
  · rcases t with _ | _ | _ | _ | _
    · exact .inl h
    all_goals exact absurd rfl hs
theorem AllT.keep {W W' : World} {av : Option Nat} {ts : List Tr} {vs : List Value} (h : AllT W av ts vs) (o : Only (fun _ => False) W W') : AllT W' av ts vs := ⟨h.1, fun j t v a b => (h.2 j t v a b).keep o⟩
/-- What stands at a place of the list, if there is one. -/
theorem AllT.at_ {W : World} {base k : Nat} {A : Option Addr} {d : Nat} {vs : List Value} {ts : List Tr} (h : AllT W (Value.ownBlock (.slice A k d)) ts vs) (own : W.ownsRow base 32 1 (.slice A k d) k vs) (n : Int) :
    (∃ v, TrAt W (Value.ownBlock (.slice A k d)) (getT ts n) v ∧ ((∃ g j : Nat, A = some ⟨g, 0, none⟩ ∧ n = (j : Int) ∧ (j : Int) < (k : Int) ∧ W.cell? ⟨g, j, none⟩ = some v ∧ g < W.heap.size) ∨ (v = .nilIface ∧ (¬ 0 ≤ n ∨ (0 ≤ n ∧ ¬ n < (k : Int)))))) := by
  have hk : vs.length = k := by simpa using own.1
  have hl := h.1
  unfold getT
  by_cases hn : 0 ≤ n ∧ n < ts.length
  · rw [if_pos hn]
    obtain ⟨j, rfl⟩ := Int.eq_ofNat_of_zero_le hn.1
    have hj : j < vs.length := by omega
    have hjt : j < ts.length := by omega
    have e1 : ts.getD (Int.toNat (j : Int)) .none = ts[j] := by simp [List.getD_eq_getElem?_getD, List.getElem?_eq_getElem hjt]
    rw [e1]
    refine ⟨vs[j], h.2 j _ _ (List.getElem?_eq_getElem hjt) (List.getElem?_eq_getElem hj), .inl ?_⟩
    rcases own.2 with ⟨e, h0⟩ | ⟨g, cap, cur, e, _⟩
    · omega
    · injection e with e1 e2 e3
      subst e1
      subst e3
      have := own.cells (g := g) rfl j _ (List.getElem?_eq_getElem hj)
      have ha : (⟨g, 0, none⟩ : Addr).add j = ⟨g, j, none⟩ := by unfold Addr.add; split <;> simp_all
      rw [ha] at this
      exact ⟨g, j, rfl, rfl, by omega, this, (own.lt g rfl).2⟩
  · rw [if_neg hn]
    exact ⟨.nilIface, rfl, .inr ⟨rfl, by omega⟩⟩

end Go.Proofs.YthagbbeppklpmaaDoor
