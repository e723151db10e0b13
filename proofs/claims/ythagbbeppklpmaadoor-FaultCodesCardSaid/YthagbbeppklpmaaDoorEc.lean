/- Chapter 1: fault.At, collect, Codes, Code at any error. -/
import Derived.Test.YthagbbeppklpmaaDoorEas
import Derived.Test.YthagbbeppklpmaaDoorAn
import Derived.Deep.AppendLies
import Derived.Deep.RegionLaw
set_option linter.unusedSimpArgs false
set_option linter.unusedVariables false
namespace Go.Proofs.YthagbbeppklpmaaDoor
open Go.RowKit

def Tr.placeS (t : Tr) : ByteArray := match t.place with | .some s => s | .none => ⟨#[]⟩
def Tr.placeB (t : Tr) : Bool := match t.place with | .some _ => true | .none => false
set_option maxRecDepth 100000 in
set_option maxHeartbeats 4000000 in
theorem at_tr (t : Tr) (w : World) (av : Option Nat) (v : Value) (h : TrAt w av t v) (hE : Et w) :
    Calls Tryd.prog 10 #[v] w fun e w' => e = .returned (.tuple #[.string t.placeS, .bool t.placeB]) ∧ Only (fun _ => False) w w' := by
  by_cases hs : t.some = true
  · have oB : Only (fun _ => False) w (w.alloc (.cells #[.pointer none] 59)) := (Only.refl _ _).alloc _
    have HA := Lib.hid (asf_tr t _ av v w.heap.size (.pointer none) (h.keep oB) hs (Has.new w 59 #[.pointer none]) (hE.only oB (fun f => f)))
    have OB := Lib.hid oB
    rcases hp : t.place with _ | s
    · have h1 : t.placeS = ⟨#[]⟩ := by unfold Tr.placeS; rw [hp]
      have h2 : t.placeB = false := by unfold Tr.placeB; rw [hp]
      rw [h1, h2]
      unfold AsPost at HA
      rw [hp] at HA
      clear hp h1 h2 hs h oB
      go_enter Tryd.func10, Tryd.ntmps10
      go_wp2_with fail
      refine (HA.out).mono ?_
      rintro e w1 ⟨⟨rfl, p1⟩, o1⟩
      go_wp2_with fail
      refine bodyPost_ret (v := .tuple #[.string ⟨#[]⟩, .bool false]) (by simp [results, Tryd.results10, go_sem]) rfl ⟨rfl, OB.out.then_ o1 (fun i hi e => absurd hi (by have : i = w.heap.size := e; omega))⟩
    · have h1 : t.placeS = s := by unfold Tr.placeS; rw [hp]
      have h2 : t.placeB = true := by unfold Tr.placeB; rw [hp]
      rw [h1, h2]
      unfold AsPost at HA
      rw [hp] at HA
      clear hp h1 h2 hs h oB
      go_enter Tryd.func10, Tryd.ntmps10
      go_wp2_with fail
      refine (HA.out).mono ?_
      rintro e w1 ⟨⟨rfl, b, c, u, p1, b1⟩, o1⟩
      have c0 : w1.cell? ⟨w.heap.size, 0, none⟩ = some (.pointer (some ⟨b, 0, none⟩)) := p1.cell 0
      have c1 : w1.cell? ⟨b, 1, none⟩ = some (.string s) := b1.cell 1
      go_wp2_with fail
      refine bodyPost_ret (v := .tuple #[.string s, .bool true]) (by simp [results, Tryd.results10, go_sem]) rfl ⟨rfl, OB.out.then_ o1 (fun i hi e => absurd hi (by have : i = w.heap.size := e; omega))⟩
  · rcases t with _ | _ | _ | _ | _
    · obtain rfl : v = .nilIface := h
      exact at_nil w
    all_goals exact absurd rfl hs

/-- What gathering into the list at p, whose row was r, turns. -/
structure CStep (p : Nat) (r : Option Nat) (w w' : World) (r' : Option Nat) : Prop where
  only : Only (fun k => k = p ∨ some k = r) w w'
  row : r' = r ∨ ∃ b, r' = some b ∧ w.heap.size ≤ b
theorem CStep.trans {p : Nat} {r r1 r2 : Option Nat} {a b c : World} (h : CStep p r a b r1) (k : CStep p r1 b c r2) : CStep p r a c r2 := by
  refine ⟨h.only.then_ k.only ?_, ?_⟩
  · rintro i hi (e | e)
    · exact .inl e
    · rcases h.row with e1 | ⟨x, e1, hx⟩
      · exact .inr (e.trans e1)
      · rw [e1] at e
        have := Option.some.inj e
        omega
  · rcases k.row with e | ⟨x, e, hx⟩
    · rw [e]; exact h.row
    · exact .inr ⟨x, e, Nat.le_trans h.only.size hx⟩
def icells (l : List Int) : List Value := l.map (Value.int .i64)
/-- The list at p holds these numbers. -/
structure LAt (w : World) (p base : Nat) (sl : Value) (xs : List Int) : Prop where
  has : Has w p 44 #[sl]
  own : w.ownsRow base 46 1 sl xs.length (icells xs)
  low : base ≤ w.heap.size
  pos : 0 < base
def Collects (p base : Nat) (sl : Value) (ys : List Int) (w : World) (e : Ending) (w' : World) : Prop :=
  e = .returned (.tuple #[]) ∧ ∃ sl', LAt w' p base sl' ys ∧ CStep p sl.ownBlock w w' sl'.ownBlock
theorem LAt.ne {w : World} {p base g : Nat} {sl : Value} {xs : List Int} {t : TypeId} {cs : Array Value} (h : LAt w p base sl xs) (hg : Has w g t cs) (h1 : t ≠ 44) (h2 : 46 ≠ t) : ¬ (g = p ∨ some g = sl.ownBlock) := by
  rintro (e | e)
  · exact hg.apart h.has h1 e
  · exact own_apart h.own hg h2 e.symm
theorem LAt.et {w w' : World} {p base : Nat} {sl : Value} {xs : List Int} {r' : Option Nat} (h : LAt w p base sl xs) (s : CStep p sl.ownBlock w w' r') (hE : Et w) : Et w' := by
  refine hE.only s.only ?_
  rintro (e | e)
  · subst e
    have q : w.cell? ⟨0, 0, none⟩ = some sl := h.has.cell 0
    rw [show w.cell? ⟨0, 0, none⟩ = _ from hE] at q
    have := h.own.2
    rcases this with ⟨e, _⟩ | ⟨g, cap, cur, e, _⟩
    · rw [e] at q; cases q
    · rw [e] at q; cases q
  · have := (h.own.lt _ e.symm).1
    have := h.pos
    omega
theorem LAt.tr {w w' : World} {p base : Nat} {sl : Value} {xs : List Int} {r' : Option Nat} {av : Option Nat} {t : Tr} {v : Value} (h : LAt w p base sl xs) (s : CStep p sl.ownBlock w w' r') (ht : TrAt w av t v) : TrAt w' av t v :=
  ht.only s.only (fun k cs hk => h.ne hk (by decide) (by decide)) (fun k cs hk => h.ne hk (by decide) (by decide)) (fun k cs hk _ => h.ne hk (by decide) (by decide))
theorem LAt.keep {w w' : World} {p base : Nat} {sl : Value} {xs : List Int} (h : LAt w p base sl xs) (o : Only (fun _ => False) w w') : LAt w' p base sl xs :=
  ⟨o.has h.has (fun f => f), o.own h.own (fun _ _ f => f), Nat.le_trans h.low o.size, h.pos⟩
theorem CStep.of {p q : Nat} {r : Option Nat} {w w' : World} (o : Only (fun _ => False) w w') : CStep p r w w' r := ⟨o.mono (fun _ _ f => f.elim), .inl rfl⟩
/-- A number appended, as the walk leaves it. -/
theorem LAt.snoc {w w4 : World} {p base g cap : Nat} {sl : Value} {xs : List Int} {c : Int} (h : LAt w p base sl xs) (o : Obj) (ho : w4.ownsRow base 46 1 (.slice (some ⟨g, 0, none⟩) (xs.length + 1) cap) (xs.length + 1) (icells xs ++ [.int .i64 c])) (hg : (w.alloc o).drew.grownBy w4 sl.ownBlock) (hat : sl.ownBlock = some g ∨ g = w.heap.size + 1) :
    LAt (w4.setCell ⟨p, 0, none⟩ (.slice (some ⟨g, 0, none⟩) (xs.length + 1) cap)) p base (.slice (some ⟨g, 0, none⟩) (xs.length + 1) cap) (xs ++ [c]) ∧ CStep p sl.ownBlock w (w4.setCell ⟨p, 0, none⟩ (.slice (some ⟨g, 0, none⟩) (xs.length + 1) cap)) (Value.ownBlock (.slice (some ⟨g, 0, none⟩) (xs.length + 1) cap)) := by
  have hp4 : Has w4 p 44 #[sl] := Has.grown ((h.has.alloc _).drew) hg (fun e => own_apart h.own h.has (by decide) e.symm)
  refine ⟨⟨hp4.put 0 _ rfl, ?_, ?_, h.pos⟩, ⟨?_, ?_⟩⟩
  · have := ownsRow_setCell_other ho (a := ⟨p, 0, none⟩) (own_apart ho hp4 (by decide)) (.slice (some ⟨g, 0, none⟩) (xs.length + 1) cap)
    rw [show (xs ++ [c]).length = xs.length + 1 by simp, show icells (xs ++ [c]) = icells xs ++ [.int .i64 c] by simp [icells]]
    exact this
  · have h1 := hg.size
    have h2 := h.low
    simp [World.setCell] at h1 ⊢
    omega
  · exact Only.setCell (Only.grown (((Only.refl _ _).alloc _).drew) hg (fun k e _ => .inr e.symm)) _ _ (fun _ => .inl rfl)
  · rcases hat with e | e
    · exact .inl (by rw [e]; rfl)
    · exact .inr ⟨g, rfl, by omega⟩
end Go.Proofs.YthagbbeppklpmaaDoor
