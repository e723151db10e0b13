/- msg.Encode where something is wrong. -/
import Derived.Test.YtbajgbjpaliecaaMp6
import Derived.Test.YtbajgbjpaliecaaFault
set_option linter.unusedSimpArgs false
set_option linter.unusedVariables false
namespace Go.Proofs.Ytbajgbjpaliecaa
open Go.RowKit

def nMsg : ByteArray := ⟨#[109, 115, 103]⟩
def nEncode : ByteArray := ⟨#[101, 110, 99, 111, 100, 101]⟩
set_option maxRecDepth 100000 in
set_option maxHeartbeats 2000000 in
theorem encode_bad10 (w : World) (m : Mg) (vw vs : Value) (h : MgAt w m vw vs) (hs : m.Short) (hc : m.check ≠ 0) : Calls Try.prog 14 #[.agg (m.cells vw vs).toArray] w fun e w' =>
    (∃ b b2, e = .returned (.tuple #[.string ⟨#[]⟩, .iface 84 (.pointer (some ⟨b, 0, none⟩))]) ∧ Has w' b 86 #[.int .i64 0, .string nMsg, .iface 84 (.pointer (some ⟨b2, 0, none⟩))] ∧ Has w' b2 86 #[.int .i64 m.check, .string nEncode, .nilIface]) ∧ Only (fun _ => False) w w' := by
  have B0 := Has.new w 39 (m.cells vw vs).toArray
  have O0 := (Only.refl (fun _ => False) w).alloc (.cells (m.cells vw vs).toArray 39)
  have hsz : (m.cells vw vs).toArray.size = 82 := by simpa using Mg.cells_length h.ok vw vs
  have HC := Lib.hid (fun W (o : Only (fun _ => False) w W) => mcheck_any W m vw vs (h.only o) hs)
  have HN := Lib.hid (fun W => fnew_any W m.check nEncode hc)
  have h1 : (m.check != 0) = true := by simpa using hc
  generalize (m.cells vw vs).toArray = cs at *
  generalize m.check = x at *
  clear h hs hc
  go_enter Try.func14, Try.ntmps14
  go_wp2_with fail
  refine wp_load_msg rfl rfl B0 hsz ?_
  go_wp2_with fail
  refine (HC.out _ O0).mono ?_
  rintro e w1 ⟨rfl, o1⟩
  go_wp2_with fail
  refine (HN.out _).mono ?_
  rintro e w2 ⟨rfl, rfl⟩
  have N2 := Has.new w1 86 #[.int .i64 x, .string nEncode, .nilIface]
  go_wp2_with fail
  refine (fwrap_any _ _ _ nMsg).mono ?_
  rintro e w3 ⟨rfl, rfl⟩
  have N3 := Has.new (w1.alloc (.cells #[.int .i64 x, .string nEncode, .nilIface] 86)) 86 #[.int .i64 0, .string nMsg, .iface 84 (.pointer (some ⟨w1.heap.size, 0, none⟩))]
  rw [show (w1.alloc (.cells #[.int .i64 x, .string nEncode, .nilIface] 86)).heap.size = w1.heap.size + 1 by simp] at N3
  go_wp2_with fail
  go_ret2
  exact ⟨⟨_, _, rfl, N3, N2.alloc _⟩, ((O0.trans o1).alloc _).alloc _⟩
end Go.Proofs.Ytbajgbjpaliecaa
