/- The law WireReads. -/
import Derived.Test.YtkafnkkipflbbaaDoorLr0
import Derived.Test.YtkafnkkipflbbaaDoorLr1
import Derived.Test.YtkafnkkipflbbaaDoorLr2
import Derived.Test.YtkafnkkipflbbaaDoorLr3
import Derived.Test.YtkafnkkipflbbaaDoorLr4
import Derived.Test.YtkafnkkipflbbaaDoorLr5
import Derived.Test.YtkafnkkipflbbaaDoorLr6
import Derived.Test.YtkafnkkipflbbaaDoorLr7
import Derived.Test.YtkafnkkipflbbaaDoorLr8
set_option linter.unusedSimpArgs false
set_option linter.unusedVariables false
namespace Go.Proofs.YtkafnkkipflbbaaDoor
open Go.RowKit Go.Lib

theorem reads_any (w : World) (p db : Nat) (s : ByteArray) (q : Q8) (kind most width : Int) (hs : s.size ≤ 100000) (hE : Et w) (h : RQ w p s q) (hd : QA w db s q) :
    Calls Tryd.prog 14 #[.pointer (some ⟨p, 0, none⟩), .pointer (some ⟨db, 0, none⟩), .agg #[.int .i64 kind, .int .i64 most, .int .i64 width]] w fun x w' =>
      x = .returned (.bool true) ∧ ∃ q', RQ w' p s q' ∧ QA w' db s q' ∧ Only (fun k => k = p ∨ k = db) w w' := by
  by_cases hk : 0 ≤ kind ∧ kind ≤ 7
  · have hc : kind = 0 ∨ kind = 1 ∨ kind = 2 ∨ kind = 3 ∨ kind = 4 ∨ kind = 5 ∨ kind = 6 ∨ kind = 7 := by omega
    rcases hc with rfl | rfl | rfl | rfl | rfl | rfl | rfl | rfl
    · exact reads_0 w p db s q most width hs hE h hd
    · exact reads_1 w p db s q most width hs hE h hd
    · exact reads_2 w p db s q most width hs hE h hd
    · exact reads_3 w p db s q most width hs hE h hd
    · exact reads_4 w p db s q most width hs hE h hd
    · exact reads_5 w p db s q most width hs hE h hd
    · exact reads_6 w p db s q most width hs hE h hd
    · exact reads_7 w p db s q most width hs hE h hd
  · exact reads_8 w p db s q kind most width (fun j h0 h7 e => hk (by omega)) hs hE h hd

/-- A call of the law's: kind, most, width. -/
structure Rc where
  kind : Int
  most : Int
  width : Int
instance : Inhabited Rc := ⟨⟨0, 0, 0⟩⟩
def RcAt (w : World) (A : Option Addr) (i : Nat) (a : Rc) : Prop :=
  ∃ ad, A = some ad ∧ ad.block < w.heap.size ∧ w.cell? (ad.add (i * 3)) = some (.int .i64 a.kind) ∧ w.cell? ⟨(ad.add (i * 3)).block, (ad.add (i * 3)).off + 1, none⟩ = some (.int .i64 a.most) ∧ w.cell? ⟨(ad.add (i * 3)).block, (ad.add (i * 3)).off + 2, none⟩ = some (.int .i64 a.width)
def Rcs (w : World) (A : Option Addr) (l : List Rc) : Prop := ∀ i, i < l.length → RcAt w A i (l.getD i default)
theorem rblock_add (a : Addr) (n : Nat) : (a.add n).block = a.block := by unfold Addr.add; split <;> rfl

set_option maxRecDepth 100000 in
set_option maxHeartbeats 2000000 in
theorem wreads_any (w : World) (s : ByteArray) (A : Option Addr) (l : List Rc) (cA : Nat) (hs : s.size ≤ 9223372036854775807) (hl : l.length ≤ 9223372036854775807) (ha : Rcs w A l) (hE : Et w) :
    Calls Tryd.prog 4 #[.string s, .slice A l.length cA] w fun e w' => e = .returned (.bool true) ∧ Only (fun _ => False) w w' := by
  have HAW := Lib.hid awake08_any
  by_cases hz : 3000 < s.size
  · have hz' : (3000 : Int) < (s.size : Int) := by omega
    clear hz ha
    go_enter Tryd.func4, Tryd.ntmps4
    go_wp2_with fail
    refine (HAW.out _).mono ?_; rintro e w2 ⟨rfl, o2⟩
    go_wp2_with fail
    go_ret
    exact ⟨rfl, o2⟩
  · have hz' : ¬ (3000 : Int) < (s.size : Int) := by omega
    have HRD := Lib.hid (fun W p db q kind most width hE h hd => reads_any W p db s q kind most width (by omega) hE h hd)
    have HA := Lib.hid ha
    have HE := Lib.hid hE
    clear hz ha hE
    go_enter Tryd.func4, Tryd.ntmps4
    go_wp2_with fail
    refine (newreader_any _ s).mono ?_
    rintro e w1 ⟨rfl, r1, o1⟩
    have R1 : RQ (w1.alloc (.cells #[.string s, .int .i64 0, .int .i64 0] 38)) w.heap.size s ⟨0, 0⟩ := (RQ.mk_whole r1 (Nat.zero_le _)).inner ((Only.refl _ _).alloc _)
    have D1 : QA (w1.alloc (.cells #[.string s, .int .i64 0, .int .i64 0] 38)) w1.heap.size s ⟨0, 0⟩ := Has.new _ _ _
    have O1 := o1.alloc (.cells #[.string s, .int .i64 0, .int .i64 0] 38)
    have hsz := o1.size
    have hp1 := r1.lt
    clear r1 o1
    go_wp2_with fail
    go_loopw [7] (fun i W => ∃ (k : Nat) (q : Q8), k ≤ l.length ∧ k ≤ 40 ∧ i = .int .i64 k ∧ RQ W w.heap.size s q ∧ QA W w1.heap.size s q ∧ Only (fun _ => False) w W) (fun i _ => 40 - (intOf i).toNat)
    case atStart => exact ⟨0, ⟨0, 0⟩, by omega, by omega, rfl, R1, D1, O1⟩
    case round =>
      obtain ⟨k, q, hk, hk40, rfl, hR, hD, ho⟩ := hrel
      have hlt' : k < l.length ∧ k < 40 ∨ (k = l.length ∨ k = 40 ∧ 40 < l.length) := by omega
      rcases hlt' with ⟨hlt, hlt40⟩ | hend
      · obtain ⟨ad, hAe, hadb, c0_, c1_, c2_⟩ := HA.out k hlt
        have c0 := ho.cell c0_ (fun f => f)
        have c1 := ho.cell c1_ (fun f => f)
        have c2 := ho.cell c2_ (fun f => f)
        clear c0_ c1_ c2_
        have HAD := Lib.hid (fun kind most width => HRD.out wr w.heap.size w1.heap.size q kind most width (HE.out.only ho (fun f => f)) hR hD)
        generalize l.getD k default = act at c0 c1 c2
        subst hAe
        have hki : (k : Int) < (l.length : Int) := by omega
        have hki2 : (k : Int) < 40 := by omega
        clear hR hD
        go_wp2_with fail
        refine (HAD.out _ _ _).mono ?_
        rintro e w2 ⟨rfl, q2, R2, D2, o2⟩
        go_wp2_with fail
        go_roundw
        case rel => exact ⟨k + 1, q2, by omega, by omega, by go_num, R2, D2, ho.then_ o2 (fun i hi e => by have h3 : i = w.heap.size ∨ i = w1.heap.size := e; omega)⟩
        case measure => simp only [intOf]; omega
      · have hE40 : ¬ (k : Int) < (l.length : Int) ∨ ((k : Int) < (l.length : Int) ∧ ¬ (k : Int) < 40) := by omega
        rcases hE40 with hn | ⟨hn1, hn2⟩
        all_goals
          go_wp2_with fail
          refine (HAW.out _).mono ?_; rintro e w2 ⟨rfl, o2⟩
          go_wp2_with fail
          go_ret
          exact ⟨rfl, ho.trans o2⟩
end Go.Proofs.YtkafnkkipflbbaaDoor
