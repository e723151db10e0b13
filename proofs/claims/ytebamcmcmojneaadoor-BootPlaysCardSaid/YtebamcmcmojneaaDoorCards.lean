/-
  DERIVED. GIVEN WITH THE SEED: THE CARDS: each row of YtebamcmcmojneaaDoorRows.lean that lists a variable, with what it lists TIED to the program's text (the seventh form; the later family's looks); each row that meets fmt, with fmt's text TOLD by the authors' own Lean function (tested against real Go, not proved from fmt's source: count such statements apart). THE CARD IS WHAT COUNTS. Prove the row's statement (the work); the ties are given (YtebamcmcmojneaaDoorTie.lean); close each card by the builder's one call (the guide's Derived/Test/ToyasCard.lean, 'card_holds'). Laid BY PROGRAM, IN A SANDBOX (cutbox-door.mjs). By AI agents, Wed Nov 11 2026. No macro, syntax, notation, axiom, sorry.
-/
import Derived.Test.YtebamcmcmojneaaDoorRows
import GoSem.ClaimSeven
namespace Go.Proofs.YtebamcmcmojneaaDoor
namespace Rows

/-- THE TIED CARD OF 'trefoillaw34.BootNobody'. -/
def bootNobodyCard : Claim7 := { stood := { row := bootNobodyRow, standIns := [], harness := (true, "4778823279ae50f352f1cb75ef628ee5a6f47801fc232285953bd556597531c1"), looks := true }, kinds := [], alts := [], laidByText := true, laidKinds := [.handle], laidTests := true, laidLooks := .later }
def BootNobodyCardSaid : Prop := Claim7.holds Tryd.pinned (.plain (OpenSpec.ofChange bootNobodySpec)) bootNobodyCard

/-- THE TIED CARD OF 'trefoillaw34.BootPlays'. -/
def bootPlaysCard : Claim7 := { stood := { row := bootPlaysRow, standIns := [], harness := (true, "4778823279ae50f352f1cb75ef628ee5a6f47801fc232285953bd556597531c1"), looks := true }, kinds := [], alts := [], laidByText := true, laidKinds := [.handle], laidTests := true, laidLooks := .later }
def BootPlaysCardSaid : Prop := Claim7.holds Tryd.pinned (.plain (OpenSpec.ofChange bootPlaysSpec)) bootPlaysCard

/-- THE SECOND FORM's CARD OF 'trefoillaw34.BootNobody'. -/
def bootNobodyUptoCard : Claim7 := { stood := { row := bootNobodyUptoRow, standIns := [], harness := (true, "4778823279ae50f352f1cb75ef628ee5a6f47801fc232285953bd556597531c1"), looks := true }, kinds := [], alts := [], laidByText := true, laidKinds := [.handle], laidTests := true, laidLooks := .later }
def BootNobodyUptoCardSaid : Prop := Claim7.holds Tryd.pinned (.plain (OpenSpec.upto bootNobodySpec)) bootNobodyUptoCard

/-- THE SECOND FORM's CARD OF 'trefoillaw34.BootPlays'. -/
def bootPlaysUptoCard : Claim7 := { stood := { row := bootPlaysUptoRow, standIns := [], harness := (true, "4778823279ae50f352f1cb75ef628ee5a6f47801fc232285953bd556597531c1"), looks := true }, kinds := [], alts := [], laidByText := true, laidKinds := [.handle], laidTests := true, laidLooks := .later }
def BootPlaysUptoCardSaid : Prop := Claim7.holds Tryd.pinned (.plain (OpenSpec.upto bootPlaysSpec)) bootPlaysUptoCard
end Rows
end Go.Proofs.YtebamcmcmojneaaDoor
