/- fault.New and fault.Wrap: what they make. -/
import Derived.Test.YtebamcmcmojneaaProg
import Derived.Test.YtebamcmcmojneaaMem
import Derived.WalkKit
import Derived.WalkSpells
import Derived.WideLaws
import Derived.Outline
import Derived.Lib.Hide
set_option linter.unusedSimpArgs false
set_option linter.unusedVariables false
namespace Go.Proofs.Ytebamcmcmojneaa
open Go.RowKit

theorem fnew_ok (w : World) (s : ByteArray) : Calls Try.prog 9 #[.int .i64 0, .string s] w fun e w' => e = .returned .nilIface ∧ w = w' := by
  go_enter Try.func9, Try.ntmps9
  go_wp2
  go_ret
  exact ⟨rfl, rfl⟩
theorem fnew_any (w : World) (c : Int) (s : ByteArray) (hc : c ≠ 0) : Calls Try.prog 9 #[.int .i64 c, .string s] w fun e w' =>
    e = .returned (.iface 43 (.pointer (some ⟨w.heap.size, 0, none⟩))) ∧ w' = w.alloc (.cells #[.int .i64 c, .string s, .nilIface] 45) := by
  have h : (c == 0) = false := by simpa using hc
  clear hc
  go_enter Try.func9, Try.ntmps9
  go_wp2
  go_ret
  exact ⟨rfl, rfl⟩
end Go.Proofs.Ytebamcmcmojneaa
