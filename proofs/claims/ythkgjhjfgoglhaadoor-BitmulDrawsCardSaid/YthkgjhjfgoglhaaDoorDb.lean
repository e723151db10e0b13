/- tape: ready, Take. -/
import Derived.Test.YthkgjhjfgoglhaaDoorDa
import Derived.StillTailTactics
import Derived.BigQuiet
set_option linter.unusedSimpArgs false
set_option linter.unusedVariables false
namespace Go.Proofs.YthkgjhjfgoglhaaDoor
open Go.RowKit

/-- An error with this number at its root. -/
def Er (w : World) (b : Nat) (c : Int) : Prop := ∃ s, ErrAt w (some b) s c
theorem Er.inner {w w' : World} {b : Nat} {c : Int} (h : Er w b c) (o : Only (fun _ => False) w w') : Er w' b c := by
  obtain ⟨s, hs⟩ := h
  exact ⟨s, hs.only o (fun _ _ _ f => f)⟩
theorem Er.new (w : World) (c : Int) (s : ByteArray) : Er (w.alloc (.cells #[.int .i64 c, .string s, .nilIface] 72)) w.heap.size c := ⟨[s], _, rfl, Has.new _ _ _⟩
theorem Er.wrap {w : World} {b : Nat} {c : Int} (h : Er w b c) (s : ByteArray) : Er (w.alloc (.cells #[.int .i64 0, .string s, .iface 70 (.pointer (some ⟨b, 0, none⟩))] 72)) w.heap.size c := by
  obtain ⟨l, hl⟩ := h
  cases l with
  | nil => cases hl
  | cons r l => exact ⟨s :: r :: l, w.heap.size, b, rfl, Has.new _ _ _, hl.only ((Only.refl (fun _ => False) _).alloc _) (fun _ _ _ f => f)⟩
set_option maxRecDepth 100000 in
set_option maxHeartbeats 1000000 in
theorem ready_ok (w : World) (T m : Nat) (A : Option Addr) (c : Nat) (l : List Int) (h : TapeAt w T A c l 0) (hl : l.length ≤ 1000000) (hm : m ≤ l.length) : Calls Tryd.prog 37 #[.pointer (some ⟨T, 0, none⟩), .int .i64 m] w fun x w' => x = .returned .nilIface ∧ Only (fun _ => False) w w' := by
  obtain ⟨t0, t1, t2, tf⟩ := Has.facts3 h.1
  have g1 : ¬ (m : Int) < 0 := by omega
  have g2 : ¬ (m : Int) > (l.length : Int) := by omega
  generalize l.length = n at *
  clear h tf
  go_enter Tryd.func37, Tryd.ntmps37
  go_wp2_with fail
  go_quiet (fail)
  go_wp2_with fail
  go_ret
  exact ⟨rfl, (Only.refl _ _).drewN _⟩
set_option maxRecDepth 100000 in
set_option maxHeartbeats 1000000 in
theorem ready_bad (w : World) (T m : Nat) (A : Option Addr) (c : Nat) (l : List Int) (h : TapeAt w T A c l 0) (hl : l.length ≤ 1000000) (hm : l.length < m) (hm2 : m ≤ 1000000) : Calls Tryd.prog 37 #[.pointer (some ⟨T, 0, none⟩), .int .i64 m] w fun x w' => (∃ b, x = .returned (.iface 70 (.pointer (some ⟨b, 0, none⟩))) ∧ Er w' b 10) ∧ Only (fun _ => False) w w' := by
  obtain ⟨t0, t1, t2, tf⟩ := Has.facts3 h.1
  have g1 : ¬ (m : Int) < 0 := by omega
  have g2 : (m : Int) > (l.length : Int) := by omega
  generalize l.length = n at *
  clear h tf
  go_enter Tryd.func37, Tryd.ntmps37
  go_wp2_with fail
  go_quiet (fail)
  go_wp2_with fail
  refine (fnew_any _ 10 _ (by decide)).mono ?_; rintro e w2 ⟨rfl, rfl⟩
  go_wp2_with fail
  go_ret
  exact ⟨⟨_, rfl, Er.new _ _ _⟩, ((Only.refl _ _).drewN _).alloc _⟩
end Go.Proofs.YthkgjhjfgoglhaaDoor
