/- fault.New and fault.Wrap: what they make. -/
import Derived.Test.YthagbbeppklpmaaDoorProg
import Derived.Test.YthagbbeppklpmaaDoorMem
import Derived.WalkKit
import Derived.WalkSpells
import Derived.WideLaws
import Derived.Outline
import Derived.Lib.Hide
set_option linter.unusedSimpArgs false
set_option linter.unusedVariables false
namespace Go.Proofs.YthagbbeppklpmaaDoor
open Go.RowKit

theorem fnew_ok (w : World) (s : ByteArray) : Calls Tryd.prog 23 #[.int .i64 0, .string s] w fun e w' => e = .returned .nilIface ∧ w = w' := by
  go_enter Tryd.func23, Tryd.ntmps23
  go_wp2
  go_ret
  exact ⟨rfl, rfl⟩
theorem fnew_any (w : World) (c : Int) (s : ByteArray) (hc : c ≠ 0) : Calls Tryd.prog 23 #[.int .i64 c, .string s] w fun e w' =>
    e = .returned (.iface 59 (.pointer (some ⟨w.heap.size, 0, none⟩))) ∧ w' = w.alloc (.cells #[.int .i64 c, .string s, .nilIface] 63) := by
  have h : (c == 0) = false := by simpa using hc
  clear hc
  go_enter Tryd.func23, Tryd.ntmps23
  go_wp2
  go_ret
  exact ⟨rfl, rfl⟩
theorem fwrap_any (w : World) (a : Addr) (t : TypeId) (s : ByteArray) : Calls Tryd.prog 24 #[.string s, .iface t (.pointer (some a))] w fun e w' =>
    e = .returned (.iface 59 (.pointer (some ⟨w.heap.size, 0, none⟩))) ∧ w' = w.alloc (.cells #[.int .i64 0, .string s, .iface t (.pointer (some a))] 63) := by
  go_enter Tryd.func24, Tryd.ntmps24
  go_wp2
  go_ret
  exact ⟨rfl, rfl⟩
end Go.Proofs.YthagbbeppklpmaaDoor
