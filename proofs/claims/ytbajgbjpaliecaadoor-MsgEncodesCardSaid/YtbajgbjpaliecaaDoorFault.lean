/- fault.New and fault.Wrap: what they make. -/
import Derived.Test.YtbajgbjpaliecaaDoorProg
import Derived.Test.YtbajgbjpaliecaaDoorMem
import Derived.WalkKit
import Derived.WalkSpells
import Derived.WideLaws
import Derived.Outline
import Derived.Lib.Hide
set_option linter.unusedSimpArgs false
set_option linter.unusedVariables false
namespace Go.Proofs.YtbajgbjpaliecaaDoor
open Go.RowKit

theorem fnew_ok (w : World) (s : ByteArray) : Calls Tryd.prog 13 #[.int .i64 0, .string s] w fun e w' => e = .returned .nilIface ∧ w = w' := by
  go_enter Tryd.func13, Tryd.ntmps13
  go_wp2
  go_ret
  exact ⟨rfl, rfl⟩
theorem fnew_any (w : World) (c : Int) (s : ByteArray) (hc : c ≠ 0) : Calls Tryd.prog 13 #[.int .i64 c, .string s] w fun e w' =>
    e = .returned (.iface 71 (.pointer (some ⟨w.heap.size, 0, none⟩))) ∧ w' = w.alloc (.cells #[.int .i64 c, .string s, .nilIface] 73) := by
  have h : (c == 0) = false := by simpa using hc
  clear hc
  go_enter Tryd.func13, Tryd.ntmps13
  go_wp2
  go_ret
  exact ⟨rfl, rfl⟩
theorem fwrap_any (w : World) (a : Addr) (t : TypeId) (s : ByteArray) : Calls Tryd.prog 12 #[.string s, .iface t (.pointer (some a))] w fun e w' =>
    e = .returned (.iface 71 (.pointer (some ⟨w.heap.size, 0, none⟩))) ∧ w' = w.alloc (.cells #[.int .i64 0, .string s, .iface t (.pointer (some a))] 73) := by
  go_enter Tryd.func12, Tryd.ntmps12
  go_wp2
  go_ret
  exact ⟨rfl, rfl⟩
end Go.Proofs.YtbajgbjpaliecaaDoor
