/- Errors that came by places: what lies in memory. -/
import Derived.Test.YthagbbeppklpmaaDoorProg
import Derived.Test.YthagbbeppklpmaaDoorMem
import Derived.WalkKit
set_option linter.unusedSimpArgs false
set_option linter.unusedVariables false
namespace Go.Proofs.YthagbbeppklpmaaDoor
open Go.RowKit

/-- A reader's error: none, or a Fault at a block. -/
def ev : Option Nat → Value
  | none => .nilIface
  | some b => .iface 59 (.pointer (some ⟨b, 0, none⟩))

/-- The value is an error that came by these places, the last one ahead, with this number at its root. -/
def ErrAt (w : World) : Option Nat → List ByteArray → Int → Prop
  | _, [], _ => False
  | e, [s], c => ∃ b, e = some b ∧ Has w b 63 #[.int .i64 c, .string s, .nilIface]
  | e, s :: r :: l, c => ∃ b b2, e = some b ∧ Has w b 63 #[.int .i64 0, .string s, ev (some b2)] ∧ ErrAt w (some b2) (r :: l) c
theorem ErrAt.only {w w' : World} {S : Nat → Prop} (o : Only S w w') (hS : ∀ k cs, Has w k 63 cs → ¬ S k) : ∀ {l : List ByteArray} {e : Option Nat} {c : Int}, ErrAt w e l c → ErrAt w' e l c
  | [], _, _, h => h
  | [s], _, _, ⟨b, he, hb⟩ => ⟨b, he, o.has hb (hS _ _ hb)⟩
  | s :: r :: l, _, _, ⟨b, b2, he, hb, h2⟩ => ⟨b, b2, he, o.has hb (hS _ _ hb), ErrAt.only o hS h2⟩
theorem assert_hit (v : Value) (xT : TypeId) (W : World) : (Instr.typeAssert (.iface 59 v) xT 59 true).run Tryd.prog W = .ok (.tuple #[v, .bool true]) W := by kernel_rfl
end Go.Proofs.YthagbbeppklpmaaDoor
