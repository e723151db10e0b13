/- fault.Path: at an error that came by any places. -/
import Derived.Test.YthagbbeppklpmaaDoorErr
import Derived.WalkKit
import Derived.WalkSpells
import Derived.RegionTactic
import Derived.Deep.RegionWith
import Derived.WalkLawsBesides
import Derived.Maps.AppendAt
import Derived.OwnWalk
import Derived.Stop.Asserts
import Derived.Outline
import Derived.Lib.Hide
import Derived.LoopTactic
set_option linter.unusedSimpArgs false
set_option linter.unusedVariables false
namespace Go.Proofs.YthagbbeppklpmaaDoor
open Go.RowKit

theorem fault_unwrap (w : World) (b : Nat) (x y u : Value) (hb : Has w b 63 #[x, y, u]) : Calls Tryd.prog 62 #[.pointer (some ⟨b, 0, none⟩)] w fun e w' => e = .returned u ∧ w = w' := by
  have c2 : w.cell? ⟨b, 2, none⟩ = some u := hb.cell 2
  go_enter Tryd.func62, Tryd.ntmps62
  go_wp2_with fail
  go_ret
  exact ⟨rfl, rfl⟩
theorem has_unwrap (v : Value) (xT : TypeId) (W : World) : (Instr.typeAssert (.iface 59 v) xT 85 true).run Tryd.prog W = .ok (.tuple #[.iface 59 v, .bool true]) W := run_typeAssert_hasB Tryd.underlying85 (by kernel_rfl) v xT W
theorem method_unwrap (h : Value) (w : World) : (Go.method 235 59 h "Unwrap").run Tryd.prog w = .ok (62, h) w := by kernel_rfl

set_option maxRecDepth 100000 in
set_option maxHeartbeats 1000000 in
theorem unwrap_any (w : World) (b : Nat) (x y u : Value) (hb : Has w b 63 #[x, y, u]) : Calls Tryd.prog 32 #[.iface 59 (.pointer (some ⟨b, 0, none⟩))] w fun e w' => e = .returned u ∧ w = w' := by
  have H := Lib.hid (fun W h => fault_unwrap W b x y u h)
  have h1 := has_unwrap
  have h2 := method_unwrap
  go_enter Tryd.func32, Tryd.ntmps32
  go_wp2_with fail
  refine (H.out _ hb).mono ?_
  rintro e w1 ⟨rfl, rfl⟩
  go_wp2_with fail
  go_ret
  exact ⟨rfl, rfl⟩

theorem Tryd.info_str : (Tryd.prog.info? 9).map (fun i => (i.zero, i.size, i.bytes)) = some (some (.string ⟨#[]⟩), 1, 16) := by kernel_rfl

/-- What of a chain is still to come, behind k places. -/
def Rest (W : World) (l : List ByteArray) (c : Int) (k : Nat) (x : Option Nat) : Prop := if k < l.length then ∃ b, x = some b ∧ ErrAt W (some b) (l.drop k) c else x = none
def strs (l : List ByteArray) : List Value := l.map fun s => .string s

theorem own_low {w : World} {base : Nat} {e : TypeId} {size n : Nat} {v : Value} {xs : List Value} (h : w.ownsRow base e size v n xs) {k : Nat} (q : v.ownBlock = some k) : base ≤ k := by
  rcases h.2 with ⟨rfl, _⟩ | ⟨g, cap, cur, rfl, hb, _⟩
  · cases q
  · cases q; exact hb

set_option maxRecDepth 100000 in
set_option maxHeartbeats 2000000 in
theorem path_chain (w : World) (b : Nat) (l : List ByteArray) (c : Int) (hb : ErrAt w (some b) l c) (hl : l.length ≤ 1000000) :
    Calls Tryd.prog 15 #[.iface 59 (.pointer (some ⟨b, 0, none⟩))] w fun e w' => ∃ v, e = .returned v ∧ w'.ownsRow w.heap.size 9 1 v l.length (strs l) ∧ Only (fun _ => False) w w' := by
  obtain ⟨i0, hi, hz0, hz1, hz2⟩ := info_parts Tryd.info_str
  have HB := Lib.hid hb
  have hpos : 0 < l.length := by
    rcases l with _ | ⟨s, l⟩
    · exact False.elim hb
    · simp
  clear hb
  have HU := Lib.hid unwrap_any
  have hit := assert_hit
  go_enter Tryd.func15, Tryd.ntmps15
  go_wp2_with fail
  go_loopw [0, 3] (fun e u W => ∃ (k : Nat) (x : Option Nat) (u0 : Value), k ≤ l.length ∧ e = ev x ∧ u0 = u ∧ Rest W l c k x ∧ W.ownsRow w.heap.size 9 1 u0 k (strs (l.take k)) ∧ w.heap.size ≤ W.heap.size ∧ Only (fun _ => False) w W) (fun e u _ => l.length - (match u with | .slice _ n _ => n | _ => 0))
  case atStart => exact ⟨0, some b, _, by omega, rfl, rfl, by unfold Rest; rw [if_pos hpos]; exact ⟨b, rfl, HB.out⟩, World.ownsRow_nil _ _ _ _, Nat.le_refl _, Only.refl _ _⟩
  case round =>
    obtain ⟨k, x, u, hk, rfl, rfl, hrest, hown, hlow, ho⟩ := hrel
    unfold Rest at hrest
    by_cases hlt : k < l.length
    · rw [if_pos hlt] at hrest
      obtain ⟨b1, rfl, hE⟩ := hrest
      have hdrop : l.drop k = l[k] :: l.drop (k + 1) := List.drop_eq_getElem_cons hlt
      have htake : strs (l.take (k + 1)) = strs (l.take k) ++ [.string l[k]] := by
        unfold strs
        rw [List.take_succ_eq_append_getElem hlt, List.map_append]
        rfl
      rw [hdrop] at hE
      -- the Fault at hand, and what is behind it
      have hF : ∃ (y : Value) (x2 : Option Nat), Has wr b1 63 #[y, .string l[k], ev x2] ∧ ∀ (S : Nat → Prop) W, Only S wr W → (∀ k cs, Has wr k 63 cs → ¬ S k) → Rest W l c (k + 1) x2 := by
        rcases hd : l.drop (k + 1) with _ | ⟨r, l2⟩
        · rw [hd] at hE
          obtain ⟨b', e, hh⟩ := hE
          obtain rfl := Option.some.inj e
          refine ⟨_, none, hh, fun S W _ _ => ?_⟩
          unfold Rest
          have : l.length ≤ k + 1 := by simpa using hd
          rw [if_neg (by omega)]
        · rw [hd] at hE
          obtain ⟨b', b2, e, hh, h2⟩ := hE
          obtain rfl := Option.some.inj e
          refine ⟨_, some b2, hh, fun S W o hS => ?_⟩
          unfold Rest
          have : k + 1 < l.length := by
            have := congrArg List.length hd
            simp at this
            omega
          rw [if_pos this, hd]
          exact ⟨b2, rfl, h2.only o hS⟩
      obtain ⟨y, x2, hh, hnext⟩ := hF
      have HN := Lib.hid hnext
      have HT := Lib.hid htake
      clear hnext htake hdrop hE
      have c1 : wr.cell? ⟨b1, 1, none⟩ = some (.string l[k]) := hh.cell 1
      generalize l[k] = s at *
      simp only [ev]
      go_wp2_with (at_builtin; go_must (refine wpList_append_own_at _ rfl _ _ 37 rfl w.heap.size 9 i0 (.string ⟨#[]⟩) 1 16 Tryd.underlying37 hi hz0 hz1 hz2 rfl (by decide) u k (strs (l.take k)) ?hs (hown.alloc _) ⟨wr.heap.size, 0, none⟩ 1 1 [.string s] ?hx rfl (cell_one_new _ _ _) ?c2 ?c3 ?c4 ?c5 ?_); (case hs => rfl); (case hx => rfl); (case c2 => intro y hy; obtain rfl := List.mem_singleton.1 hy; rfl); (case c3 => unfold maxLen; omega); (case c4 => omega); (case c5 => simp; omega); intro v1 w1 ho1 hg1 _ hat1)
      have o1 : Only (fun j => some j = u.ownBlock) wr w1 := Only.grown ((Only.refl _ _).alloc _) hg1 (fun j e hj => e.symm)
      have hS : ∀ k cs, Has wr k 63 cs → ¬ some k = u.ownBlock := fun k cs hk e => own_apart hown hk (by decide) e.symm
      have hh1 := o1.has hh (hS _ _ hh)
      have HR := Lib.hid (HN.out _ w1 o1 hS)
      clear c1
      refine (HU.out _ b1 _ _ _ hh1).mono ?_
      rintro e w2 ⟨rfl, rfl⟩
      obtain ⟨A1, d1, hv1⟩ : ∃ A c, v1 = .slice A (k + 1) c := by
        rcases ho1.2 with ⟨rfl, h0⟩ | ⟨g, cap, cur, rfl, _⟩
        · exact ⟨_, _, by rw [h0]⟩
        · exact ⟨_, _, rfl⟩
      subst hv1
      go_wp2_with fail
      go_roundw
      case rel =>
        refine ⟨k + 1, x2, _, by omega, rfl, rfl, HR.out, ?_, ?_, ?_⟩
        · rw [HT.out]; exact ho1
        · have := hg1.size; simp at this; omega
        · exact ho.then_ o1 (fun i hi e => absurd hi (by have := own_low hown e.symm; omega))
      case measure =>
        rcases hown.2 with ⟨rfl, h0⟩ | ⟨g, cap, cur, rfl, _⟩
        · simp; omega
        · simp; omega
    · rw [if_neg hlt] at hrest
      subst hrest
      obtain rfl : k = l.length := by omega
      simp only [ev]
      go_wp2_with fail
      go_ret
      refine ⟨_, rfl, ?_, ho⟩
      rw [List.take_length] at hown
      exact hown
end Go.Proofs.YthagbbeppklpmaaDoor
