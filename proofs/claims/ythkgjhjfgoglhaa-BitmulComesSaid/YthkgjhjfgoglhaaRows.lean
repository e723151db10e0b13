/-
  No cell of these rows narrows 'for every input' (looked for: loops, veiled, ifaces, maps, wideKeys, modest, calm, conditions, laid).
  DERIVED. THE GIVEN ROWS OF THIS SEAT. 3 by the template 'for every input the law returns true; each argument reads behind the call as it read before'; 0 by the template 'total and deterministic' (their statements: YthkgjhjfgoglhaaTotals.lean).
  GIVEN WITH THE SEED: the statements are not yours to turn. If you find one false, say at which input.
  Laid BY PROGRAM, IN A SANDBOX (cutbox-rows.mjs): the forced cells as the released guide's own fill.sh prints them over the translation 2aea1eda36bea0bd… (all of the seat's roots in one cut). By AI agents, Wed Nov 11 2026. No macro, syntax, notation, axiom, sorry.
-/
import Derived.Test.YthkgjhjfgoglhaaChecked
import GoSem.Claim
import GoSem.ClaimJoined
import GoSem.ClaimMapViews
import Derived.JoinedTies
import Derived.KernelRfl
namespace Go.Proofs.Ythkgjhjfgoglhaa
/- THE CELL 'sum', in the pinned program and in every row, IS THE sha256 OF THE DUMP (.gsa) THAT YthkgjhjfgoglhaaProg.lean LOADS. Nothing in Lean hashes anything: it is a label: what it is worth is what the hold of that sum in a sandbox is worth. -/
noncomputable def Try.pinned : Pinned := { name := "ythkgjhjfgoglhaa", sum := "2aea1eda36bea0bd09b05a26dfd394031dc57a029be5e46180bff457cff678d0", checked := Try.checked }
namespace Rows
def none {H : Type} : Left H := { results := [], args := [] }

/-- 'trefoillaw24.BitmulWrong': WHATEVER THE INPUT: true; the input reads as it did. -/
def bitmulWrongSpec : ChangeSpec := { name := "bitmulWrong", fn := fun _ => fun
  | [d1, d2] => { results := [.lit (.bool true)], args := [d1, d2] }
  | _ => none }
def bitmulWrongRow : OpenClaim := { program := "ythkgjhjfgoglhaa", sum := "2aea1eda36bea0bd09b05a26dfd394031dc57a029be5e46180bff457cff678d0", func := "trefoil/trefoillaw24.BitmulWrong", spec := "bitmulWrong", unfollowed := true, recurses := true, apart := false }
def BitmulWrongSaid : Prop := bitmulWrongRow.holds Try.pinned (OpenSpec.ofChange bitmulWrongSpec)

/-- ITS FALSE NEIGHBOUR: 'it returns false'. Refute it at one input. -/
def bitmulWrongWrong : ChangeSpec := { name := "bitmulWrong", fn := fun _ => fun
  | [d1, d2] => { results := [.lit (.bool false)], args := [d1, d2] }
  | _ => none }
def BitmulWrongWrongFalsely : Prop := bitmulWrongRow.holds Try.pinned (OpenSpec.ofChange bitmulWrongWrong)

/-- 'trefoillaw24.BitmulSides': WHATEVER THE INPUT: true; the input reads as it did. -/
def bitmulSidesSpec : ChangeSpec := { name := "bitmulSides", fn := fun _ => fun
  | [d1, d2, d3] => { results := [.lit (.bool true)], args := [d1, d2, d3] }
  | _ => none }
def bitmulSidesRow : OpenClaim := { program := "ythkgjhjfgoglhaa", sum := "2aea1eda36bea0bd09b05a26dfd394031dc57a029be5e46180bff457cff678d0", func := "trefoil/trefoillaw24.BitmulSides", spec := "bitmulSides", unfollowed := true, recurses := true, apart := false }
def BitmulSidesSaid : Prop := bitmulSidesRow.holds Try.pinned (OpenSpec.ofChange bitmulSidesSpec)

/-- ITS FALSE NEIGHBOUR: 'it returns false'. Refute it at one input. -/
def bitmulSidesWrong : ChangeSpec := { name := "bitmulSides", fn := fun _ => fun
  | [d1, d2, d3] => { results := [.lit (.bool false)], args := [d1, d2, d3] }
  | _ => none }
def BitmulSidesWrongFalsely : Prop := bitmulSidesRow.holds Try.pinned (OpenSpec.ofChange bitmulSidesWrong)

/-- 'trefoillaw24.BitmulComes': WHATEVER THE INPUT: true; the input reads as it did. -/
def bitmulComesSpec : ChangeSpec := { name := "bitmulComes", fn := fun _ => fun
  | [d1, d2, d3, d4, d5] => { results := [.lit (.bool true)], args := [d1, d2, d3, d4, d5] }
  | _ => none }
def bitmulComesRow : OpenClaim := { program := "ythkgjhjfgoglhaa", sum := "2aea1eda36bea0bd09b05a26dfd394031dc57a029be5e46180bff457cff678d0", func := "trefoil/trefoillaw24.BitmulComes", spec := "bitmulComes", unfollowed := true, recurses := true, apart := false }
def BitmulComesSaid : Prop := bitmulComesRow.holds Try.pinned (OpenSpec.ofChange bitmulComesSpec)

/-- ITS FALSE NEIGHBOUR: 'it returns false'. Refute it at one input. -/
def bitmulComesWrong : ChangeSpec := { name := "bitmulComes", fn := fun _ => fun
  | [d1, d2, d3, d4, d5] => { results := [.lit (.bool false)], args := [d1, d2, d3, d4, d5] }
  | _ => none }
def BitmulComesWrongFalsely : Prop := bitmulComesRow.holds Try.pinned (OpenSpec.ofChange bitmulComesWrong)

/- THE SECOND FORM. 'bulk': how many values and letters a reading holds, each counted each time it is reached (what is shared counts as often as it is met; a slice's spare places count too). A statement '..UptoSaid' is the law's where the arguments, and the package variables that the reading takes, are together of bulk at most 1048576: NARROWER than '..Said'. Prove '..Said' where nothing that the law and all that it calls make is longer than what came in: it says more and counts as full. Else prove '..UptoSaid'. A law counts once. -/
mutual
def uptoBulk {H : Type} : DataW H → Nat
  | .lit (.string bytes) => bytes.length + 1
  | .lit _ => 1
  | .nil => 1
  | .ptr d => uptoBulk d + 1
  | .slice elems spare => uptoBulkAll elems + uptoBulkAll spare + 1
  | .agg parts => uptoBulkAll parts + 1
  | .iface _ d => uptoBulk d + 1
  | .map entries => uptoBulkEntries entries + 1
  | .held _ => 1
def uptoBulkAll {H : Type} : List (DataW H) → Nat
  | [] => 0
  | d :: r => uptoBulk d + uptoBulkAll r
def uptoBulkEntries {H : Type} : List (Lit × DataW H) → Nat
  | [] => 0
  | x :: r => uptoBulkEntry x + uptoBulkEntries r
def uptoBulkEntry {H : Type} : Lit × DataW H → Nat
  | (.string bytes, d) => bytes.length + uptoBulk d + 1
  | (_, d) => uptoBulk d + 1
 end
def uptoSmall : (H : Type) → List (DataW H) → Bool := fun _ ds => decide (uptoBulkAll ds ≤ 1048576)
def OpenSpec.upto (s : _root_.Go.ChangeSpec) : _root_.Go.OpenSpec := { _root_.Go.OpenSpec.ofChange s with cond := some uptoSmall }

/-- 'trefoillaw24.BitmulWrong', WHERE WHAT IT READS IS OF BULK AT MOST 1048576: true; the input reads as it did. -/
def bitmulWrongUptoRow : OpenClaim := { program := "ythkgjhjfgoglhaa", sum := "2aea1eda36bea0bd09b05a26dfd394031dc57a029be5e46180bff457cff678d0", func := "trefoil/trefoillaw24.BitmulWrong", spec := "bitmulWrong", unfollowed := true, recurses := true, apart := false, narrowed := true }
def BitmulWrongUptoSaid : Prop := bitmulWrongUptoRow.holds Try.pinned (OpenSpec.upto bitmulWrongSpec)

/-- 'trefoillaw24.BitmulSides', WHERE WHAT IT READS IS OF BULK AT MOST 1048576: true; the input reads as it did. -/
def bitmulSidesUptoRow : OpenClaim := { program := "ythkgjhjfgoglhaa", sum := "2aea1eda36bea0bd09b05a26dfd394031dc57a029be5e46180bff457cff678d0", func := "trefoil/trefoillaw24.BitmulSides", spec := "bitmulSides", unfollowed := true, recurses := true, apart := false, narrowed := true }
def BitmulSidesUptoSaid : Prop := bitmulSidesUptoRow.holds Try.pinned (OpenSpec.upto bitmulSidesSpec)

/-- 'trefoillaw24.BitmulComes', WHERE WHAT IT READS IS OF BULK AT MOST 1048576: true; the input reads as it did. -/
def bitmulComesUptoRow : OpenClaim := { program := "ythkgjhjfgoglhaa", sum := "2aea1eda36bea0bd09b05a26dfd394031dc57a029be5e46180bff457cff678d0", func := "trefoil/trefoillaw24.BitmulComes", spec := "bitmulComes", unfollowed := true, recurses := true, apart := false, narrowed := true }
def BitmulComesUptoSaid : Prop := bitmulComesUptoRow.holds Try.pinned (OpenSpec.upto bitmulComesSpec)

end Rows
end Go.Proofs.Ythkgjhjfgoglhaa
