/-
  No cell of these rows narrows 'for every input' (looked for: loops, veiled, ifaces, maps, wideKeys, modest, calm, conditions, laid).
  DERIVED. THE GIVEN ROWS OF THIS SEAT. 3 by the template 'for every input the law returns true; each argument reads behind the call as it read before'; 0 by the template 'total and deterministic' (their statements: YtffnjnkaefodlaaTotals.lean).
  GIVEN WITH THE SEED: the statements are not yours to turn. If you find one false, say at which input.
  Laid BY PROGRAM, IN A SANDBOX (cutbox-rows.mjs): the forced cells as the released guide's own fill.sh prints them over the translation b26c9b750c4af64b… (all of the seat's roots in one cut). By AI agents, Wed Nov 11 2026. No macro, syntax, notation, axiom, sorry.
-/
import Derived.Test.YtffnjnkaefodlaaChecked
import GoSem.Claim
import GoSem.ClaimJoined
import GoSem.ClaimMapViews
import Derived.JoinedTies
import Derived.KernelRfl
namespace Go.Proofs.Ytffnjnkaefodlaa
/- THE CELL 'sum', in the pinned program and in every row, IS THE sha256 OF THE DUMP (.gsa) THAT YtffnjnkaefodlaaProg.lean LOADS. Nothing in Lean hashes anything: it is a label: what it is worth is what the hold of that sum in a sandbox is worth. -/
noncomputable def Try.pinned : Pinned := { name := "ytffnjnkaefodlaa", sum := "b26c9b750c4af64b3243a1ae88993b01c152bcc435b45036a9b6fd4e619cd092", checked := Try.checked }
namespace Rows
def none {H : Type} : Left H := { results := [], args := [] }

/-- 'trefoillaw31.VerdictStays': WHATEVER THE INPUT: true; the input reads as it did. -/
def verdictStaysSpec : ChangeSpec := { name := "verdictStays", fn := fun _ => fun
  | [d1, d2, d3] => { results := [.lit (.bool true)], args := [d1, d2, d3] }
  | _ => none }
def verdictStaysRow : OpenClaim := { program := "ytffnjnkaefodlaa", sum := "b26c9b750c4af64b3243a1ae88993b01c152bcc435b45036a9b6fd4e619cd092", func := "trefoil/trefoillaw31.VerdictStays", spec := "verdictStays", apart := false }
def VerdictStaysSaid : Prop := verdictStaysRow.holds Try.pinned (OpenSpec.ofChange verdictStaysSpec)

/-- ITS FALSE NEIGHBOUR: 'it returns false'. Refute it at one input. -/
def verdictStaysWrong : ChangeSpec := { name := "verdictStays", fn := fun _ => fun
  | [d1, d2, d3] => { results := [.lit (.bool false)], args := [d1, d2, d3] }
  | _ => none }
def VerdictStaysWrongFalsely : Prop := verdictStaysRow.holds Try.pinned (OpenSpec.ofChange verdictStaysWrong)

/-- 'trefoillaw31.VerdictPlays': WHATEVER THE INPUT: true; the input reads as it did. -/
def verdictPlaysSpec : ChangeSpec := { name := "verdictPlays", fn := fun _ => fun
  | [d] => { results := [.lit (.bool true)], args := [d] }
  | _ => none }
def verdictPlaysRow : OpenClaim := { program := "ytffnjnkaefodlaa", sum := "b26c9b750c4af64b3243a1ae88993b01c152bcc435b45036a9b6fd4e619cd092", func := "trefoil/trefoillaw31.VerdictPlays", spec := "verdictPlays", apart := false }
def VerdictPlaysSaid : Prop := verdictPlaysRow.holds Try.pinned (OpenSpec.ofChange verdictPlaysSpec)

/-- ITS FALSE NEIGHBOUR: 'it returns false'. Refute it at one input. -/
def verdictPlaysWrong : ChangeSpec := { name := "verdictPlays", fn := fun _ => fun
  | [d] => { results := [.lit (.bool false)], args := [d] }
  | _ => none }
def VerdictPlaysWrongFalsely : Prop := verdictPlaysRow.holds Try.pinned (OpenSpec.ofChange verdictPlaysWrong)

/-- 'trefoillaw31.VerdictNobody': WHATEVER THE INPUT: true; the input reads as it did. -/
def verdictNobodySpec : ChangeSpec := { name := "verdictNobody", fn := fun _ => fun
  | [d] => { results := [.lit (.bool true)], args := [d] }
  | _ => none }
def verdictNobodyRow : OpenClaim := { program := "ytffnjnkaefodlaa", sum := "b26c9b750c4af64b3243a1ae88993b01c152bcc435b45036a9b6fd4e619cd092", func := "trefoil/trefoillaw31.VerdictNobody", spec := "verdictNobody", apart := false }
def VerdictNobodySaid : Prop := verdictNobodyRow.holds Try.pinned (OpenSpec.ofChange verdictNobodySpec)

/-- ITS FALSE NEIGHBOUR: 'it returns false'. Refute it at one input. -/
def verdictNobodyWrong : ChangeSpec := { name := "verdictNobody", fn := fun _ => fun
  | [d] => { results := [.lit (.bool false)], args := [d] }
  | _ => none }
def VerdictNobodyWrongFalsely : Prop := verdictNobodyRow.holds Try.pinned (OpenSpec.ofChange verdictNobodyWrong)

/- THE SECOND FORM. 'bulk': how many values and letters a reading holds, each counted each time it is reached (what is shared counts as often as it is met; a slice's spare places count too). A statement '..UptoSaid' is the law's where the arguments, and the package variables that the reading takes, are together of bulk at most 1048576: NARROWER than '..Said'. Prove '..Said' where nothing that the law and all that it calls make is longer than what came in: it says more and counts as full. Else prove '..UptoSaid'. A law counts once. -/
mutual
def uptoBulk {H : Type} : DataW H → Nat
  | .lit (.string bytes) => bytes.length + 1
  | .lit _ => 1
  | .nil => 1
  | .ptr d => uptoBulk d + 1
  | .slice elems spare => uptoBulkAll elems + uptoBulkAll spare + 1
  | .agg parts => uptoBulkAll parts + 1
  | .iface _ d => uptoBulk d + 1
  | .map entries => uptoBulkEntries entries + 1
  | .held _ => 1
def uptoBulkAll {H : Type} : List (DataW H) → Nat
  | [] => 0
  | d :: r => uptoBulk d + uptoBulkAll r
def uptoBulkEntries {H : Type} : List (Lit × DataW H) → Nat
  | [] => 0
  | x :: r => uptoBulkEntry x + uptoBulkEntries r
def uptoBulkEntry {H : Type} : Lit × DataW H → Nat
  | (.string bytes, d) => bytes.length + uptoBulk d + 1
  | (_, d) => uptoBulk d + 1
 end
def uptoSmall : (H : Type) → List (DataW H) → Bool := fun _ ds => decide (uptoBulkAll ds ≤ 1048576)
def OpenSpec.upto (s : _root_.Go.ChangeSpec) : _root_.Go.OpenSpec := { _root_.Go.OpenSpec.ofChange s with cond := some uptoSmall }

/-- 'trefoillaw31.VerdictStays', WHERE WHAT IT READS IS OF BULK AT MOST 1048576: true; the input reads as it did. -/
def verdictStaysUptoRow : OpenClaim := { program := "ytffnjnkaefodlaa", sum := "b26c9b750c4af64b3243a1ae88993b01c152bcc435b45036a9b6fd4e619cd092", func := "trefoil/trefoillaw31.VerdictStays", spec := "verdictStays", apart := false, narrowed := true }
def VerdictStaysUptoSaid : Prop := verdictStaysUptoRow.holds Try.pinned (OpenSpec.upto verdictStaysSpec)

/-- 'trefoillaw31.VerdictPlays', WHERE WHAT IT READS IS OF BULK AT MOST 1048576: true; the input reads as it did. -/
def verdictPlaysUptoRow : OpenClaim := { program := "ytffnjnkaefodlaa", sum := "b26c9b750c4af64b3243a1ae88993b01c152bcc435b45036a9b6fd4e619cd092", func := "trefoil/trefoillaw31.VerdictPlays", spec := "verdictPlays", apart := false, narrowed := true }
def VerdictPlaysUptoSaid : Prop := verdictPlaysUptoRow.holds Try.pinned (OpenSpec.upto verdictPlaysSpec)

/-- 'trefoillaw31.VerdictNobody', WHERE WHAT IT READS IS OF BULK AT MOST 1048576: true; the input reads as it did. -/
def verdictNobodyUptoRow : OpenClaim := { program := "ytffnjnkaefodlaa", sum := "b26c9b750c4af64b3243a1ae88993b01c152bcc435b45036a9b6fd4e619cd092", func := "trefoil/trefoillaw31.VerdictNobody", spec := "verdictNobody", apart := false, narrowed := true }
def VerdictNobodyUptoSaid : Prop := verdictNobodyUptoRow.holds Try.pinned (OpenSpec.upto verdictNobodySpec)

end Rows
end Go.Proofs.Ytffnjnkaefodlaa
