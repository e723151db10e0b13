/- boot: Start where there were too many, Load; the reference's Start, joined. -/
import Derived.Test.YtebamcmcmojneaaDoorRef34e
import Derived.Test.YtebamcmcmojneaaDoorRef34g
import Derived.Test.YtebamcmcmojneaaDoorBoN
set_option linter.unusedSimpArgs false
set_option linter.unusedVariables false
namespace Go.Proofs.YtebamcmcmojneaaDoor
open Go.RowKit Go.Lib

theorem load_any (w : World) (a b : ByteArray) : Calls Tryd.prog 11 #[.string a, .string b] w fun e w' => e = .returned (.pointer (some ⟨w.heap.size, 0, none⟩)) ∧ SAt w' w.heap.size ⟨a, b, 0, ⟨#[]⟩, true⟩ ∧ Only (fun _ => False) w w' := by
  go_enter Tryd.func11, Tryd.ntmps11
  go_wp2_with fail
  go_ret
  exact ⟨rfl, Has.new _ _ _, (Only.refl _ _).alloc _⟩

set_option maxRecDepth 100000 in
theorem start_over (w : World) (p : Nat) (s : Sto) (hs : s.short) (h : SAt w p s) (hm : 1048575 ≤ s.count) : Calls Tryd.prog 6 #[.pointer (some ⟨p, 0, none⟩)] w fun e w' =>
    ∃ g t, e = .returned (.tuple #[.int .u32 0, .iface 56 (.pointer (some ⟨g, 0, none⟩))]) ∧ Has w' g 58 #[.int .i64 20, .string t, .nilIface] ∧ SAt w' p s ∧ Only (fun _ => False) w w' := by
  have hc := Lib.hid (fun W hW => count_any W p s hs hW)
  have hmade := hs.made
  obtain ⟨c0, c1, c2, c3, c4, cf⟩ := h.facts
  rw [hmade] at c4
  clear hmade
  go_enter Tryd.func6, Tryd.ntmps6
  go_wp2_with fail
  refine (hc.out _ h).mono ?_
  rintro e w1 ⟨rfl, o1⟩
  have h1 := o1.has h (fun f => f)
  go_wp2_with fail
  refine (fnew_any _ _ _ (by decide)).mono ?_
  rintro e w2 ⟨rfl, rfl⟩
  go_wp2_with fail
  go_ret2
  exact ⟨_, _, rfl, Has.new _ _ _, Has.alloc h1 _, o1.alloc _⟩

/-- The reference's start. -/
theorem rstart_any (w : World) (s : Sto) (hs : s.short) (hm : s.count < 1048575) : Calls Tryd.prog 13 #[s.ref] w fun e w' => e = .returned (.tuple #[s.next.ref, .int .u32 (s.count + 1), .int .i64 0]) ∧ Only (fun _ => False) w w' := by
  have ha := hs.a
  have hb := hs.b
  have hr := s.count_range
  by_cases h : decV s.a = s.count ∧ 0 < s.count
  · have e : s.next = { s with last := 1, old := s.b, b := recS (s.count + 1) } := by unfold Sto.next; rw [if_pos h]
    rw [e]
    exact rstart_b w s.a s.b s.old s.last (by omega) (by omega) s.count rfl hm h.1 h.2
  · have e : s.next = { s with last := 0, old := s.a, a := recS (s.count + 1) } := by unfold Sto.next; rw [if_neg h]
    rw [e]
    by_cases h1 : decV s.a = s.count
    · exact rstart_a2 w s.a s.b s.old s.last (by omega) (by omega) s.count rfl hm hr.1 h1 (by omega)
    · exact rstart_a1 w s.a s.b s.old s.last (by omega) (by omega) s.count rfl hm hr.1 h1
theorem rover_any (w : World) (s : Sto) (hs : s.short) (hm : 1048575 ≤ s.count) : Calls Tryd.prog 13 #[s.ref] w fun e w' => e = .returned (.tuple #[s.ref, .int .u32 0, .int .i64 20]) ∧ Only (fun _ => False) w w' :=
  rstart_over w s.a s.b s.old s.last (by have := hs.a; omega) (by have := hs.b; omega) hm
theorem rcount_any (w : World) (s : Sto) (hs : s.short) : Calls Tryd.prog 14 #[s.ref] w fun e w' => e = .returned (.int .u32 s.count) ∧ Only (fun _ => False) w w' :=
  count_ref w s.a s.b s.old s.last (by have := hs.a; omega) (by have := hs.b; omega)
end Go.Proofs.YtebamcmcmojneaaDoor
