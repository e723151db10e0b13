/- wire.Reader: what it holds, and what its methods read. -/
import Derived.Test.YtbajgbjpaliecaaWr
import Derived.Test.YtbajgbjpaliecaaPut
import Derived.Test.YtbajgbjpaliecaaFault
import Derived.Test.YtbajgbjpaliecaaErr
import Derived.BigQuiet
import Derived.Deep.QuietTactic
import Derived.Lib.ConvBytes
import Derived.Laws.BitsLemmas
set_option linter.unusedSimpArgs false
set_option linter.unusedVariables false
namespace Go.Proofs.Ytbajgbjpaliecaa
open Go.RowKit Go.Lib

abbrev RAt (w : World) (p : Nat) (s : ByteArray) (at_ : Nat) (e : Option Nat) : Prop := Has w p 94 #[.string s, .int .i64 at_, ev e]

theorem RAt.facts {w : World} {p : Nat} {s : ByteArray} {at_ : Nat} {e : Option Nat} (h : RAt w p s at_ e) : w.cell? ⟨p, 0, none⟩ = some (.string s) ∧ w.cell? ⟨p, 1, none⟩ = some (.int .i64 at_) ∧ w.cell? ⟨p, 2, none⟩ = some (ev e) ∧ (∀ i, w.frozen? ⟨p, i, none⟩ = false) := h.facts3
/-- A step of a Reader at p leaves errors alone. -/
theorem RAt.errs {w w' : World} {p : Nat} {s : ByteArray} {at_ : Nat} {e : Option Nat} (h : RAt w p s at_ e) (o : Only (· = p) w w') {l : List ByteArray} {e2 : Option Nat} {c : Int} (he : ErrAt w e2 l c) : ErrAt w' e2 l c :=
  he.only o fun k cs hk q => (h.apart hk (by decide)) q.symm

theorem newreader_any (w : World) (s : ByteArray) : Calls Try.prog 32 #[.string s] w fun e w' => e = .returned (.pointer (some ⟨w.heap.size, 0, none⟩)) ∧ RAt w' w.heap.size s 0 none ∧ Only (fun _ => False) w w' := by
  go_enter Try.func32, Try.ntmps32
  go_wp2
  go_ret
  exact ⟨rfl, Has.new _ _ _, (Only.refl _ _).alloc _⟩

theorem err_any (w : World) (p : Nat) (s : ByteArray) (at_ : Nat) (e : Option Nat) (h : RAt w p s at_ e) : Calls Try.prog 34 #[.pointer (some ⟨p, 0, none⟩)] w fun r w' => r = .returned (ev e) ∧ w = w' := by
  obtain ⟨c0, c1, c2, cf⟩ := h.facts
  go_enter Try.func34, Try.ntmps34
  go_wp2
  go_ret
  exact ⟨rfl, rfl⟩

theorem fail_had (w : World) (p : Nat) (s f : ByteArray) (at_ b : Nat) (c : Int) (h : RAt w p s at_ (some b)) : Calls Try.prog 54 #[.pointer (some ⟨p, 0, none⟩), .string f, .int .i64 c] w fun r w' => r = .returned (.tuple #[]) ∧ w = w' := by
  obtain ⟨c0, c1, c2, cf⟩ := h.facts
  simp only [ev] at c2
  go_enter Try.func54, Try.ntmps54
  go_wp2
  go_end0
  exact ⟨rfl, rfl⟩

def wireName : ByteArray := ⟨#[119, 105, 114, 101]⟩

theorem fail_new (w : World) (p : Nat) (s f : ByteArray) (at_ : Nat) (c : Int) (hc : c ≠ 0) (h : RAt w p s at_ none) : Calls Try.prog 54 #[.pointer (some ⟨p, 0, none⟩), .string f, .int .i64 c] w fun r w' =>
    r = .returned (.tuple #[]) ∧ ∃ b, RAt w' p s at_ (some b) ∧ ErrAt w' (some b) [wireName, f] c ∧ Only (· = p) w w' := by
  obtain ⟨c0, c1, c2, cf⟩ := h.facts
  simp only [ev] at c2
  have hp := h.lt
  go_enter Try.func54, Try.ntmps54
  go_wp2_with fail
  refine (fnew_any _ c f hc).mono ?_
  rintro e w1 ⟨rfl, rfl⟩
  go_wp2_with fail
  refine (fwrap_any _ _ _ _).mono ?_
  rintro e w2 ⟨rfl, rfl⟩
  go_wp2_with fail
  go_end0
  have h0 := h.put 2 (ev (some (w.heap.size + 1))) rfl
  have hz : (w.setCell ⟨p, 2, none⟩ (ev (some (w.heap.size + 1)))).heap.size = w.heap.size := by simp [World.setCell]
  have o0 : Only (· = p) w (w.setCell ⟨p, 2, none⟩ (ev (some (w.heap.size + 1)))) := (Only.refl (· = p) w).setCell ⟨p, 2, none⟩ _ (fun _ => (rfl : p = p))
  have n1 := (Has.new (w.setCell ⟨p, 2, none⟩ (ev (some (w.heap.size + 1)))) 86 #[.int .i64 c, .string f, .nilIface]).alloc (.cells #[.int .i64 0, .string wireName, ev (some w.heap.size)] 86)
  have n2 := Has.new ((w.setCell ⟨p, 2, none⟩ (ev (some (w.heap.size + 1)))).alloc (.cells #[.int .i64 c, .string f, .nilIface] 86)) 86 #[.int .i64 0, .string wireName, ev (some w.heap.size)]
  rw [hz] at n1
  rw [show ((w.setCell ⟨p, 2, none⟩ (ev (some (w.heap.size + 1)))).alloc (.cells #[.int .i64 c, .string f, .nilIface] 86)).heap.size = w.heap.size + 1 by rw [← hz]; simp] at n2
  exact ⟨rfl, w.heap.size + 1, (h0.alloc _).alloc _, ⟨w.heap.size + 1, w.heap.size, rfl, n2, w.heap.size, rfl, n1⟩, (o0.alloc _).alloc _⟩

theorem take_had (w : World) (p : Nat) (s f : ByteArray) (at_ b : Nat) (n : Int) (h : RAt w p s at_ (some b)) : Calls Try.prog 62 #[.pointer (some ⟨p, 0, none⟩), .string f, .int .i64 n] w fun r w' => r = .returned (.string ⟨#[]⟩) ∧ w = w' := by
  obtain ⟨c0, c1, c2, cf⟩ := h.facts
  simp only [ev] at c2
  go_enter Try.func62, Try.ntmps62
  go_wp2
  go_ret
  exact ⟨rfl, rfl⟩

theorem take_short (w : World) (p : Nat) (s f : ByteArray) (at_ n : Nat) (hs : s.size ≤ 140737488351232) (hat : at_ ≤ s.size) (hn : s.size < at_ + n) (hn2 : n ≤ 4611686018427387904) (h : RAt w p s at_ none) : Calls Try.prog 62 #[.pointer (some ⟨p, 0, none⟩), .string f, .int .i64 n] w fun r w' =>
    r = .returned (.string ⟨#[]⟩) ∧ ∃ b, RAt w' p s at_ (some b) ∧ ErrAt w' (some b) [wireName, f] 12 ∧ Only (· = p) w w' := by
  obtain ⟨c0, c1, c2, cf⟩ := h.facts
  simp only [ev] at c2
  have hlt : (s.size : Int) - (at_ : Int) < (n : Int) := by omega
  go_enter Try.func62, Try.ntmps62
  go_wp2_with fail
  go_quiet (fail)
  go_wp2_with fail
  refine (fail_new _ p s f at_ 12 (by decide) (h.drewN _)).mono ?_
  rintro e w1 ⟨rfl, b, h1, e1, o1⟩
  go_wp2_with fail
  go_ret
  exact ⟨rfl, b, h1, e1, ((Only.refl _ _).drewN _).trans o1⟩

theorem take_ok (w : World) (p : Nat) (s f : ByteArray) (at_ n : Nat) (hs : s.size ≤ 140737488351232) (hn : at_ + n ≤ s.size) (h : RAt w p s at_ none) : Calls Try.prog 62 #[.pointer (some ⟨p, 0, none⟩), .string f, .int .i64 n] w fun r w' =>
    r = .returned (.string (s.extract at_ (at_ + n))) ∧ RAt w' p s (at_ + n) none ∧ Only (· = p) w w' := by
  obtain ⟨c0, c1, c2, cf⟩ := h.facts
  simp only [ev] at c2
  have hlt : (n : Int) ≤ (s.size : Int) - (at_ : Int) := by omega
  go_enter Try.func62, Try.ntmps62
  go_wp2_with fail
  go_quiet (fail)
  go_wp2_with fail
  go_quiet (fail)
  go_wp2_with fail
  go_ret
  refine ⟨rfl, ?_, ?_⟩
  · exact ((h.drewN _).put 1 (.int .i64 ((at_ + n : Nat) : Int)) rfl)
  · exact ((Only.refl (· = p) w).drewN _).setCell ⟨p, 1, none⟩ _ (fun _ => (rfl : p = p))
end Go.Proofs.Ytbajgbjpaliecaa
