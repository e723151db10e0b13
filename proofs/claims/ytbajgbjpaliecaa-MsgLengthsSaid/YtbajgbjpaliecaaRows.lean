/-
  No cell of these rows narrows 'for every input' (looked for: loops, veiled, ifaces, maps, wideKeys, modest, calm, conditions, laid).
  DERIVED. THE GIVEN ROWS OF THIS SEAT. 3 by the template 'for every input the law returns true; each argument reads behind the call as it read before'; 0 by the template 'total and deterministic' (their statements: YtbajgbjpaliecaaTotals.lean).
  GIVEN WITH THE SEED: the statements are not yours to turn. If you find one false, say at which input.
  Laid BY PROGRAM, IN A SANDBOX (cutbox-rows.mjs): the forced cells as the released guide's own fill.sh prints them over the translation 3802e4eb933ac23a… (all of the seat's roots in one cut). By AI agents, Wed Nov 11 2026. No macro, syntax, notation, axiom, sorry.
-/
import Derived.Test.YtbajgbjpaliecaaChecked
import GoSem.Claim
import GoSem.ClaimJoined
import GoSem.ClaimMapViews
import Derived.JoinedTies
import Derived.KernelRfl
namespace Go.Proofs.Ytbajgbjpaliecaa
/- THE CELL 'sum', in the pinned program and in every row, IS THE sha256 OF THE DUMP (.gsa) THAT YtbajgbjpaliecaaProg.lean LOADS. Nothing in Lean hashes anything: it is a label: what it is worth is what the hold of that sum in a sandbox is worth. -/
noncomputable def Try.pinned : Pinned := { name := "ytbajgbjpaliecaa", sum := "3802e4eb933ac23a001544fcd1574a1c09f0ffa08d92f29d5254a8117c90ddc9", checked := Try.checked }
namespace Rows
def none {H : Type} : Left H := { results := [], args := [] }

/-- 'trefoillaw10.MsgChecks': WHATEVER THE INPUT: true; the input reads as it did. -/
def msgChecksSpec : ChangeSpec := { name := "msgChecks", fn := fun _ => fun
  | [d1, d2] => { results := [.lit (.bool true)], args := [d1, d2] }
  | _ => none }
def msgChecksRow : OpenClaim := { program := "ytbajgbjpaliecaa", sum := "3802e4eb933ac23a001544fcd1574a1c09f0ffa08d92f29d5254a8117c90ddc9", func := "trefoil/trefoillaw10.MsgChecks", spec := "msgChecks", apart := false }
def MsgChecksSaid : Prop := msgChecksRow.holds Try.pinned (OpenSpec.ofChange msgChecksSpec)

/-- ITS FALSE NEIGHBOUR: 'it returns false'. Refute it at one input. -/
def msgChecksWrong : ChangeSpec := { name := "msgChecks", fn := fun _ => fun
  | [d1, d2] => { results := [.lit (.bool false)], args := [d1, d2] }
  | _ => none }
def MsgChecksWrongFalsely : Prop := msgChecksRow.holds Try.pinned (OpenSpec.ofChange msgChecksWrong)

/-- 'trefoillaw10.MsgLengths': WHATEVER THE INPUT: true; the input reads as it did. -/
def msgLengthsSpec : ChangeSpec := { name := "msgLengths", fn := fun _ => fun
  | [d1, d2, d3] => { results := [.lit (.bool true)], args := [d1, d2, d3] }
  | _ => none }
def msgLengthsRow : OpenClaim := { program := "ytbajgbjpaliecaa", sum := "3802e4eb933ac23a001544fcd1574a1c09f0ffa08d92f29d5254a8117c90ddc9", func := "trefoil/trefoillaw10.MsgLengths", spec := "msgLengths", apart := false }
def MsgLengthsSaid : Prop := msgLengthsRow.holds Try.pinned (OpenSpec.ofChange msgLengthsSpec)

/-- ITS FALSE NEIGHBOUR: 'it returns false'. Refute it at one input. -/
def msgLengthsWrong : ChangeSpec := { name := "msgLengths", fn := fun _ => fun
  | [d1, d2, d3] => { results := [.lit (.bool false)], args := [d1, d2, d3] }
  | _ => none }
def MsgLengthsWrongFalsely : Prop := msgLengthsRow.holds Try.pinned (OpenSpec.ofChange msgLengthsWrong)

/-- 'trefoillaw10.MsgBack': WHATEVER THE INPUT: true; the input reads as it did. -/
def msgBackSpec : ChangeSpec := { name := "msgBack", fn := fun _ => fun
  | [d1, d2] => { results := [.lit (.bool true)], args := [d1, d2] }
  | _ => none }
def msgBackRow : OpenClaim := { program := "ytbajgbjpaliecaa", sum := "3802e4eb933ac23a001544fcd1574a1c09f0ffa08d92f29d5254a8117c90ddc9", func := "trefoil/trefoillaw10.MsgBack", spec := "msgBack", apart := false }
def MsgBackSaid : Prop := msgBackRow.holds Try.pinned (OpenSpec.ofChange msgBackSpec)

/-- ITS FALSE NEIGHBOUR: 'it returns false'. Refute it at one input. -/
def msgBackWrong : ChangeSpec := { name := "msgBack", fn := fun _ => fun
  | [d1, d2] => { results := [.lit (.bool false)], args := [d1, d2] }
  | _ => none }
def MsgBackWrongFalsely : Prop := msgBackRow.holds Try.pinned (OpenSpec.ofChange msgBackWrong)

/- THE SECOND FORM. 'bulk': how many values and letters a reading holds, each counted each time it is reached (what is shared counts as often as it is met; a slice's spare places count too). A statement '..UptoSaid' is the law's where the arguments, and the package variables that the reading takes, are together of bulk at most 1048576: NARROWER than '..Said'. Prove '..Said' where nothing that the law and all that it calls make is longer than what came in: it says more and counts as full. Else prove '..UptoSaid'. A law counts once. -/
mutual
def uptoBulk {H : Type} : DataW H → Nat
  | .lit (.string bytes) => bytes.length + 1
  | .lit _ => 1
  | .nil => 1
  | .ptr d => uptoBulk d + 1
  | .slice elems spare => uptoBulkAll elems + uptoBulkAll spare + 1
  | .agg parts => uptoBulkAll parts + 1
  | .iface _ d => uptoBulk d + 1
  | .map entries => uptoBulkEntries entries + 1
  | .held _ => 1
def uptoBulkAll {H : Type} : List (DataW H) → Nat
  | [] => 0
  | d :: r => uptoBulk d + uptoBulkAll r
def uptoBulkEntries {H : Type} : List (Lit × DataW H) → Nat
  | [] => 0
  | x :: r => uptoBulkEntry x + uptoBulkEntries r
def uptoBulkEntry {H : Type} : Lit × DataW H → Nat
  | (.string bytes, d) => bytes.length + uptoBulk d + 1
  | (_, d) => uptoBulk d + 1
 end
def uptoSmall : (H : Type) → List (DataW H) → Bool := fun _ ds => decide (uptoBulkAll ds ≤ 1048576)
def OpenSpec.upto (s : _root_.Go.ChangeSpec) : _root_.Go.OpenSpec := { _root_.Go.OpenSpec.ofChange s with cond := some uptoSmall }

/-- 'trefoillaw10.MsgChecks', WHERE WHAT IT READS IS OF BULK AT MOST 1048576: true; the input reads as it did. -/
def msgChecksUptoRow : OpenClaim := { program := "ytbajgbjpaliecaa", sum := "3802e4eb933ac23a001544fcd1574a1c09f0ffa08d92f29d5254a8117c90ddc9", func := "trefoil/trefoillaw10.MsgChecks", spec := "msgChecks", apart := false, narrowed := true }
def MsgChecksUptoSaid : Prop := msgChecksUptoRow.holds Try.pinned (OpenSpec.upto msgChecksSpec)

/-- 'trefoillaw10.MsgLengths', WHERE WHAT IT READS IS OF BULK AT MOST 1048576: true; the input reads as it did. -/
def msgLengthsUptoRow : OpenClaim := { program := "ytbajgbjpaliecaa", sum := "3802e4eb933ac23a001544fcd1574a1c09f0ffa08d92f29d5254a8117c90ddc9", func := "trefoil/trefoillaw10.MsgLengths", spec := "msgLengths", apart := false, narrowed := true }
def MsgLengthsUptoSaid : Prop := msgLengthsUptoRow.holds Try.pinned (OpenSpec.upto msgLengthsSpec)

/-- 'trefoillaw10.MsgBack', WHERE WHAT IT READS IS OF BULK AT MOST 1048576: true; the input reads as it did. -/
def msgBackUptoRow : OpenClaim := { program := "ytbajgbjpaliecaa", sum := "3802e4eb933ac23a001544fcd1574a1c09f0ffa08d92f29d5254a8117c90ddc9", func := "trefoil/trefoillaw10.MsgBack", spec := "msgBack", apart := false, narrowed := true }
def MsgBackUptoSaid : Prop := msgBackUptoRow.holds Try.pinned (OpenSpec.upto msgBackSpec)

end Rows
end Go.Proofs.Ytbajgbjpaliecaa
